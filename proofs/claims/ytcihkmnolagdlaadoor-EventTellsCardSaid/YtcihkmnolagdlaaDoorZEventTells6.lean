/- One text out of several: Av15. No condition but theirs. -/
import Derived.Deep.Slices
import Derived.SizedLaws
import Derived.ChangeOld
import Derived.WideShapes
import Derived.ChangeShapes
import Derived.Test.YtcihkmnolagdlaaDoorZEventTells4
import Derived.Test.YtcihkmnolagdlaaDoorZEventTells5
namespace Go.Proofs.YtcihkmnolagdlaaDoor.Av
open Go Go.RowKit Go.Deep Go.ChangeShapes Go.WideShapes
set_option linter.unusedVariables false

/-- Nothing is the call's own. -/
def C0 : Cx := Cx.out (fun _ => False)
structure Reads (w : World) (gs : List G) (cs : List Value) : Prop where
  len : cs.length = gs.length
  one : ∀ v ∈ cs, v.oneCell' = true
  rep : ∀ (i : Nat) g v, gs[i]? = some g → cs[i]? = some v → Rep C0 w g v
/-- Whatever is read as a value of type T reads as R x, and F holds of x. -/
def Opens {α : Type} (P : Program) (T : TypeId) (R : α → List G) (n : Nat) (F : α → Prop) : Prop :=
  P.cellsOf T = n ∧ (∀ x, (R x).length = n ∧ ∀ g ∈ R x, g.closed0 = true) ∧ ∀ (H : Type) (enc : TypeId × Value → H) (w : World) (spare : Nat → Bool) (held : Bool) (fuel : Nat) (cs : List Value) (d : DataW H) (ps : List MemPlace),
    DataW.trod enc P w 0 spare held fuel T cs = some (d, ps) → (∀ n ∈ d.weights P T, n ≤ reachBytes) → ∃ x, Reads w (R x) cs ∧ F x

theorem reads_one {w : World} {g : G} {v : Value} (hr : Rep C0 w g v) (hv : v.oneCell' = true) : Reads w [g] [v] :=
  ⟨rfl, fun u hu => by simp at hu; subst hu; exact hv, fun i g' v' hg hv' => by
    cases i with
    | zero => simp at hg hv'; subst hg; subst hv'; exact hr
    | succ i => simp at hg⟩
theorem Opens.imp {α : Type} {P : Program} {T : TypeId} {R : α → List G} {n : Nat} {F F' : α → Prop} (h : Opens P T R n F) (hi : ∀ x, F x → F' x) : Opens P T R n F' :=
  ⟨h.1, h.2.1, fun H enc w spare held fuel cs d ps ht hn => by
    obtain ⟨x, hK, hF⟩ := h.2.2 H enc w spare held fuel cs d ps ht hn
    exact ⟨x, hK, hi x hF⟩⟩
theorem opens_int {P : Program} {T : TypeId} {ik : IntKind} (hu : P.underlying T = some (.int ik)) (hc : P.cellsOf T = 1) : Opens P T (fun x : Int => [G.int ik x]) 1 (fun x => (Lit.int ik x).wf = true) :=
  ⟨hc, fun x => ⟨rfl, fun g hg => by simp at hg; subst hg; rfl⟩, fun H enc w spare held fuel cs d ps h _ => by
    obtain ⟨n, rfl, _, hw⟩ := DataW.trod_int hu h
    exact ⟨n, reads_one (.int _ _) rfl, hw⟩⟩
theorem opens_bool {P : Program} {T : TypeId} (hu : P.underlying T = some .bool) (hc : P.cellsOf T = 1) : Opens P T (fun x : Bool => [G.bool x]) 1 (fun _ => True) :=
  ⟨hc, fun x => ⟨rfl, fun g hg => by simp at hg; subst hg; rfl⟩, fun H enc w spare held fuel cs d ps h _ => by
    obtain ⟨b, rfl, _⟩ := DataW.trod_bool hu h
    exact ⟨b, reads_one (.bool _) rfl, trivial⟩⟩
theorem opens_string {P : Program} {T : TypeId} (hu : P.underlying T = some .string) (hc : P.cellsOf T = 1) : Opens P T (fun x : ByteArray => [G.str x]) 1 (fun s => s.size ≤ 140737488351232) :=
  ⟨hc, fun x => ⟨rfl, fun g hg => by simp at hg; subst hg; rfl⟩, fun H enc w spare held fuel cs d ps h hn => by
    obtain ⟨s, rfl, hx, _⟩ := DataW.trod_string hu h
    obtain ⟨rfl, rfl⟩ := Prod.mk.inj hx
    refine ⟨s, reads_one (.str _) rfl, ?_⟩
    have h1 := hn s.data.toList.length (by unfold DataW.weights; exact List.mem_singleton.2 rfl)
    have e2 : s.data.toList.length = s.size := by rw [Array.length_toList]; rfl
    rw [e2] at h1; exact h1⟩

theorem weights_mem_all {H : Type} {P : Program} {e : TypeId} : ∀ {ds : List (DataW H)} {d : DataW H}, d ∈ ds → ∀ n ∈ d.weights P e, n ∈ DataW.weightsAll P e ds
  | d0 :: ds, d, hd, n, hn => by
    simp only [DataW.weightsAll, List.mem_append]
    rcases List.mem_cons.1 hd with rfl | h
    · exact Or.inl hn
    · exact Or.inr (weights_mem_all h n hn)
theorem build_list {α : Type} (p : Nat → α → Prop) : ∀ n, (∀ i, i < n → ∃ x, p i x) → ∃ xs : List α, xs.length = n ∧ ∀ (i : Nat) (x : α), xs[i]? = some x → p i x
  | 0, _ => ⟨[], rfl, fun i x h => by simp at h⟩
  | n + 1, h => by
    obtain ⟨xs, hl, hp⟩ := build_list p n (fun i hi => h i (by omega))
    obtain ⟨x, hx⟩ := h n (by omega)
    refine ⟨xs ++ [x], by simp [hl], fun i y hy => ?_⟩
    by_cases hi : i < n
    · exact hp i y (by rwa [List.getElem?_append_left (by omega)] at hy)
    · rw [List.getElem?_append_right (by omega)] at hy
      obtain ⟨hz, hq⟩ : i - xs.length = 0 ∧ y = x := by
        cases hz : i - xs.length with
        | zero => rw [hz] at hy; simp at hy; exact ⟨rfl, hy.symm⟩
        | succ j => rw [hz] at hy; simp at hy
      have hin : i = n := by omega
      rw [hin, hq]; exact hx

theorem cell_block {w : World} {a : Addr} {v : Value} (h : w.cell? a = some v) : a.spot = none ∧ a.block < w.heap.size := by
  unfold World.cell? at h
  split at h
  · rename_i c _ _ hb
    split at h
    · cases h
    · rename_i hs
      exact ⟨by simpa using hs, (Array.getElem?_eq_some_iff.1 hb).1⟩
  · cases h

theorem opens_slice {α : Type} {P : Program} {T e : TypeId} {R : α → List G} {n : Nat} {F : α → Prop} (hu : P.underlying T = some (.slice e)) (hc : P.cellsOf T = 1) (hE : Opens P e R (n + 1) F) :
    Opens P T (fun xs : List α => [G.sl (xs.map R)]) 1 (fun xs => (∀ x ∈ xs, F x) ∧ xs.length * P.bytesOf e ≤ 140737488351232) :=
  ⟨hc, fun x => ⟨rfl, fun g hg => by simp at hg; subst hg; rfl⟩, fun H enc w spare held fuel cs d ps h hn => by
    rcases open_slice hu h with ⟨rfl, hx⟩ | ⟨a, len, cap, m, f, D, Pl, rfl, hb, hl, hm, hmm, hx, hel⟩
    · exact ⟨[], reads_one (.slnil none 0 (fun _ => rfl)) rfl, fun x hx => by simp at hx, by simp⟩
    · obtain ⟨rfl, rfl⟩ := Prod.mk.inj hx
      have hlm : len ≤ m := by rw [hmm]; split <;> omega
      have e0 : reachBytes = 140737488351232 := rfl
      have hW : ∀ i, i < len → ∀ n ∈ (D i).weights P e, n ≤ reachBytes := fun i hi n hni => hn n (by
        simp only [DataW.weights, hu, List.mem_cons, List.mem_append]
        exact Or.inr (Or.inl (weights_mem_all (List.mem_map.2 ⟨i, by simpa using hi, rfl⟩) n hni)))
      have hS : (len + (m - len)) * P.bytesOf e ≤ reachBytes := hn _ (by
        simp only [DataW.weights, hu, List.mem_cons]
        left; simp)
      obtain ⟨xs, hlen, hp⟩ := build_list (fun i x => ∃ cs', w.cells? 0 (a.add (i * (n + 1))) (n + 1) = some cs' ∧ Reads w (R x) cs' ∧ F x) len (fun i hi => by
        obtain ⟨cs', h1, h2⟩ := hel i (by omega)
        obtain ⟨x, hK, hF⟩ := hE.2.2 H enc w spare held f cs' _ _ h2 (hW i hi)
        exact ⟨x, cs', by rw [← hE.1]; exact h1, hK, hF⟩)
      subst hlen
      refine ⟨xs, reads_one ?_ rfl, fun x hx => ?_, ?_⟩
      · by_cases h0 : xs = []
        · subst h0; exact .slnil (some a) cap (fun e => by cases e)
        obtain ⟨x0, ys, rfl⟩ := List.exists_cons_of_ne_nil h0
        obtain ⟨hs, hlt⟩ : a.spot = none ∧ a.block < w.heap.size := by
          obtain ⟨cs', h1, hK, _⟩ := hp 0 x0 rfl
          obtain ⟨_, hl', hcc⟩ := World.cells?_some h1
          have := hcc 0 (by omega)
          rw [List.getElem?_eq_getElem (by omega)] at this
          have e1 : (a.add (0 * (n + 1))).add 0 = a := by simp [Addr.add]
          rw [e1] at this
          exact cell_block this
        generalize hxs : x0 :: ys = xs at *
        have hlm' : (xs.map R).length = xs.length := by simp
        rw [← hlm']
        refine .sl (xs.map R) a cap (n + 1) (fun i j => (w.cell? ⟨a.block, a.off + i * (n + 1) + j, none⟩).getD undef) hs hlt (fun h => h) (by rw [hlm']; omega) (fun r hr => ?_) (fun r hr g hg => ?_) (fun i r j g h1 h2 => ?_) (fun i r j g h1 h2 => ?_)
        · obtain ⟨x, _, rfl⟩ := List.mem_map.1 hr; exact (hE.2.1 x).1
        · obtain ⟨x, _, rfl⟩ := List.mem_map.1 hr; exact (hE.2.1 x).2 g hg
        all_goals
          rw [List.getElem?_map] at h1
          obtain ⟨x, hx, rfl⟩ := Option.map_eq_some_iff.1 h1
          obtain ⟨cs', q1, hK, _⟩ := hp i x hx
          obtain ⟨_, hl', hcc⟩ := World.cells?_some q1
          have hj : j < n + 1 := by rw [← (hE.2.1 x).1]; exact (List.getElem?_eq_some_iff.1 h2).1
          have hq := hcc j hj
          have ea : (a.add (i * (n + 1))).add j = ⟨a.block, a.off + i * (n + 1) + j, none⟩ := by
            rw [Deep.add_add]
            unfold Addr.add
            obtain ⟨ab, ao, asp⟩ := a
            simp only at hs; subst hs
            split
            · rename_i hz; simp [show i * (n + 1) = 0 by omega, show j = 0 by omega]
            · simp [Nat.add_assoc]
          rw [ea, List.getElem?_eq_getElem (by omega)] at hq
          rw [hq]
        · rfl
        · exact hK.rep j g _ h2 (List.getElem?_eq_getElem (by omega))
      · obtain ⟨i, hi⟩ := List.mem_iff_getElem?.1 hx
        obtain ⟨_, _, _, hF⟩ := hp i x hi
        exact hF
      · have : xs.length * P.bytesOf e ≤ (xs.length + (m - xs.length)) * P.bytesOf e := Nat.mul_le_mul_right _ (by omega)
        omega⟩

def OpensFs {α : Type} (P : Program) (fs : List Field) (off : Nat) (R : α → List G) (n : Nat) (F : α → Prop) : Prop :=
  (∀ x, (R x).length = n ∧ ∀ g ∈ R x, g.closed0 = true) ∧ ∀ (H : Type) (enc : TypeId × Value → H) (w : World) (spare : Nat → Bool) (held : Bool) (m : Nat) (cs : List Value) (xs : List (DataW H × List MemPlace)), cs.length = off + n → xs.length = fs.length →
    (∀ (i : Nat) (f : Field), fs[i]? = some f → DataW.trod enc P w 0 spare held m f.type ((cs.drop f.offset).take (P.cellsOf f.type)) = xs[i]?) →
    (∀ n ∈ DataW.weightsEach P (fs.map (·.type)) (xs.map (·.1)), n ≤ reachBytes) → ∃ x, Reads w (R x) (cs.drop off) ∧ F x
theorem fs_one {α : Type} {P : Program} {f : Field} {off : Nat} {R : α → List G} {n : Nat} {F : α → Prop} (ho : f.offset = off) (hO : Opens P f.type R n F) : OpensFs P [f] off R n F :=
  ⟨hO.2.1, fun H enc w spare held m cs xs hc hx hr hn => by
    subst ho
    match xs, hx with
    | [y], _ =>
      have h0 := hr 0 f rfl
      rw [hO.1, List.take_of_length_le (by rw [List.length_drop]; omega)] at h0
      exact hO.2.2 H enc w spare held m _ y.1 y.2 h0 (fun m hm => hn m (by simpa [DataW.weightsEach] using hm))⟩
theorem Reads.append {w : World} {gs hs : List G} {cs ds : List Value} (h : Reads w gs cs) (h' : Reads w hs ds) : Reads w (gs ++ hs) (cs ++ ds) :=
  ⟨by simp [h.len, h'.len], fun v hv => (List.mem_append.1 hv).elim (h.one v) (h'.one v), fun i g v hg hv => by
    by_cases hi : i < gs.length
    · rw [List.getElem?_append_left hi] at hg
      rw [List.getElem?_append_left (by rw [h.len]; exact hi)] at hv
      exact h.rep i g v hg hv
    · rw [List.getElem?_append_right (by omega)] at hg
      rw [List.getElem?_append_right (by rw [h.len]; omega), h.len] at hv
      exact h'.rep _ g v hg hv⟩
theorem fs_cons {α β : Type} {P : Program} {f : Field} {fs : List Field} {off off' : Nat} {R : α → List G} {R' : β → List G} {n n' : Nat} {F : α → Prop} {F' : β → Prop} (ho : f.offset = off) (ho' : off + n = off') (hO : Opens P f.type R n F) (hR : OpensFs P fs off' R' n' F') :
    OpensFs P (f :: fs) off (fun x : α × β => R x.1 ++ R' x.2) (n + n') (fun x => F x.1 ∧ F' x.2) :=
  ⟨fun x => ⟨by rw [List.length_append, (hO.2.1 x.1).1, (hR.1 x.2).1], fun g hg => (List.mem_append.1 hg).elim ((hO.2.1 x.1).2 g) ((hR.1 x.2).2 g)⟩, fun H enc w spare held m cs xs hc hx hr hn => by
    subst ho; subst ho'
    match xs, hx with
    | y :: ys, hx =>
      have h0 := hr 0 f rfl
      rw [hO.1] at h0
      obtain ⟨a, hK, hF⟩ := hO.2.2 H enc w spare held m _ y.1 y.2 h0 (fun m hm => hn m (by simp only [List.map_cons, DataW.weightsEach, List.mem_append]; exact Or.inl hm))
      obtain ⟨b, hK', hF'⟩ := hR.2 H enc w spare held m cs ys (by omega) (by simpa using hx) (fun i g hg => by simpa using hr (i + 1) g (by simpa using hg)) (fun m hm => hn m (by simp only [List.map_cons, DataW.weightsEach, List.mem_append]; exact Or.inr hm))
      refine ⟨(a, b), ?_, hF, hF'⟩
      have := hK.append hK'
      rwa [← List.drop_drop, List.take_append_drop] at this⟩
theorem opens_struct {α : Type} {P : Program} {T : TypeId} {fs : Array Field} {R : α → List G} {n : Nat} {F : α → Prop} (hu : P.underlying T = some (.struct fs)) (hc : P.cellsOf T = n) (hf : OpensFs P fs.toList 0 R n F) : Opens P T R n F :=
  ⟨hc, hf.1, fun H enc w spare held fuel cs d ps h hn => by
    obtain ⟨xs, m, _, hx, hl, hxl, hr⟩ := DataW.trod_struct hu h
    obtain ⟨rfl, rfl⟩ := Prod.mk.inj hx
    have := hf.2 H enc w spare held m cs xs (by omega) (by simpa using hxl) (fun i f hi => hr i f (by simpa using hi)) (fun m hm => hn m (by simp only [DataW.weights, hu]; exact hm))
    simpa using this⟩
/-- The same, in a type of one's own. -/
theorem opens_iso {α β : Type} {P : Program} {T : TypeId} {R : α → List G} {n : Nat} {F : α → Prop} (f : β → α) (g : α → β) (hfg : ∀ a, f (g a) = a) (hO : Opens P T R n F) {R' : β → List G} (hR : ∀ b, R' b = R (f b)) : Opens P T R' n (fun b => F (f b)) :=
  ⟨hO.1, fun x => by rw [hR]; exact hO.2.1 (f x), fun H enc w spare held fuel cs d ps h hn => by
    obtain ⟨x, hK, hF⟩ := hO.2.2 H enc w spare held fuel cs d ps h hn
    exact ⟨g x, by rw [hR, hfg]; exact hK, by show F (f (g x)); rw [hfg]; exact hF⟩⟩

/-- A value's cells as a value: a struct's, or another one's. -/
theorem param_struct {α H : Type} {P : Program} {T : TypeId} {fs : Array Field} {R : α → List G} {n : Nat} {F : α → Prop} {enc : TypeId × Value → H} {w : World} {r : Reach} {b : Nat} {spare : Nat → Bool} {held : Bool} {v : Value} {d : DataW H} {p : List MemPlace}
    (hu : P.underlying T = some (.struct fs)) (hO : Opens P T R n F) (hv : Value.okWide P w r b T v) (h : DataW.Trod enc P w 0 spare held T v d p) (hn : ∀ n ∈ d.weights P T, n ≤ reachBytes) :
    ∃ x, Rep C0 w (.agg (R x)) v ∧ F x := by
  obtain ⟨cs, rfl, _⟩ := okWide_struct hu hv
  obtain ⟨fuel, hf⟩ := h
  obtain ⟨x, hK, hF⟩ := hO.2.2 H enc w spare held fuel _ d p hf hn
  refine ⟨x, ?_, hF⟩
  have e : (Value.agg cs).cells.toList = cs.toList := rfl
  rw [e] at hK
  exact .agg _ cs.toList hK.len (fun g hg => closed0_cell ((hO.2.1 x).2 g hg)) hK.one hK.rep
theorem param_one {α H : Type} {P : Program} {T : TypeId} {R : α → List G} {g : α → G} {F : α → Prop} {enc : TypeId × Value → H} {w : World} {spare : Nat → Bool} {held : Bool} {v : Value} {d : DataW H} {p : List MemPlace}
    (hO : Opens P T R 1 F) (hR : ∀ x, R x = [g x]) (hc : v.cells = #[v]) (h : DataW.Trod enc P w 0 spare held T v d p) (hn : ∀ n ∈ d.weights P T, n ≤ reachBytes) :
    ∃ x, Rep C0 w (g x) v ∧ F x := by
  obtain ⟨fuel, hf⟩ := h
  rw [hc] at hf
  obtain ⟨x, hK, hF⟩ := hO.2.2 H enc w spare held fuel _ d p hf hn
  exact ⟨x, hK.rep 0 _ _ (by rw [hR]; rfl) rfl, hF⟩
theorem param_slice {α H : Type} {P : Program} {T e : TypeId} {R : α → List G} {g : α → G} {F : α → Prop} {enc : TypeId × Value → H} {w : World} {r : Reach} {b : Nat} {spare : Nat → Bool} {held : Bool} {v : Value} {d : DataW H} {p : List MemPlace}
    (hu : P.underlying T = some (.slice e)) (hO : Opens P T R 1 F) (hR : ∀ x, R x = [g x]) (hv : Value.okWide P w r b T v) (h : DataW.Trod enc P w 0 spare held T v d p) (hn : ∀ n ∈ d.weights P T, n ≤ reachBytes) :
    ∃ x, Rep C0 w (g x) v ∧ F x := by
  obtain ⟨a, len, cap, rfl⟩ := okWide_slice hu hv
  exact param_one hO hR rfl h hn
theorem param_int {α H : Type} {P : Program} {T : TypeId} {ik : IntKind} {R : α → List G} {g : α → G} {F : α → Prop} {enc : TypeId × Value → H} {w : World} {r : Reach} {b : Nat} {spare : Nat → Bool} {held : Bool} {v : Value} {d : DataW H} {p : List MemPlace}
    (hu : P.underlying T = some (.int ik)) (hO : Opens P T R 1 F) (hR : ∀ x, R x = [g x]) (hv : Value.okWide P w r b T v) (h : DataW.Trod enc P w 0 spare held T v d p) (hn : ∀ n ∈ d.weights P T, n ≤ reachBytes) :
    ∃ x, Rep C0 w (g x) v ∧ F x := by
  obtain ⟨m, rfl⟩ := okWide_int hu hv
  exact param_one hO hR rfl h hn
theorem param_bool {α H : Type} {P : Program} {T : TypeId} {R : α → List G} {g : α → G} {F : α → Prop} {enc : TypeId × Value → H} {w : World} {r : Reach} {b : Nat} {spare : Nat → Bool} {held : Bool} {v : Value} {d : DataW H} {p : List MemPlace}
    (hu : P.underlying T = some .bool) (hO : Opens P T R 1 F) (hR : ∀ x, R x = [g x]) (hv : Value.okWide P w r b T v) (h : DataW.Trod enc P w 0 spare held T v d p) (hn : ∀ n ∈ d.weights P T, n ≤ reachBytes) :
    ∃ x, Rep C0 w (g x) v ∧ F x := by
  obtain ⟨m, rfl⟩ := okWide_bool hu hv
  exact param_one hO hR rfl h hn
theorem param_string {α H : Type} {P : Program} {T : TypeId} {R : α → List G} {g : α → G} {F : α → Prop} {enc : TypeId × Value → H} {w : World} {r : Reach} {b : Nat} {spare : Nat → Bool} {held : Bool} {v : Value} {d : DataW H} {p : List MemPlace}
    (hu : P.underlying T = some .string) (hO : Opens P T R 1 F) (hR : ∀ x, R x = [g x]) (hv : Value.okWide P w r b T v) (h : DataW.Trod enc P w 0 spare held T v d p) (hn : ∀ n ∈ d.weights P T, n ≤ reachBytes) :
    ∃ x, Rep C0 w (g x) v ∧ F x := by
  obtain ⟨m, rfl⟩ := okWide_string hu hv
  exact param_one hO hR rfl h hn
/-- A parameter's weights, out of all. -/
theorem param_weights {H : Type} {P : Program} {ts : List TypeId} {ds : List (DataW H)} (h : (DataW.weightsEach P ts ds).all (· ≤ reachBytes) = true) {j : Nat} {t : TypeId} {d : DataW H} (ht : ts[j]? = some t) (hd : ds[j]? = some d) : ∀ n ∈ d.weights P t, n ≤ reachBytes :=
  fun n hn => by simpa using List.all_eq_true.1 h n (DataW.weights_mem_each ht hd n hn)

/-- A call of a law, by what its arguments read as. -/
theorem Fv.calls {P : Program} {f : FuncId} {gs : List G} {b : Bool} (h : Fv P f gs (.bool b)) {w : World} (hfx : Fixed w C0.ex) {vs : List Value} (hl : vs.length = gs.length) (hr : ∀ (i : Nat) g v, gs[i]? = some g → vs[i]? = some v → Rep C0 w g v) :
    Calls P f ⟨vs⟩ w fun e w' => e = .returned (.bool b) ∧ Below w.heap.size w w' := by
  refine (h.2 C0 w (fun _ => False) vs hl hr (mem0 w _ (fun B h => h.elim)) (fun B h => h.elim) (fun b B h => by cases h) (fun k B s sz n h => by cases h) hfx).mono fun e w' ⟨v, C', g, bs, rs, he, hR, hv, hM, hE⟩ => ?_
  obtain ⟨rfl, _, _⟩ := hR
  cases hv
  exact ⟨he, ⟨hE.fr.os, hE.fr.tape, hE.fr.output, hE.fr.size, fun B hB => hE.fr.block B hB (fun h => h)⟩⟩
end Go.Proofs.YtcihkmnolagdlaaDoor.Av
