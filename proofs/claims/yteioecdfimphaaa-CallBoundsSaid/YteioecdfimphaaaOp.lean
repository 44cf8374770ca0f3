/- Arguments opened, kind by kind: what a value of a Go type reads as, in the print's own kinds. The condition: what is read is within the form's reach. -/
import Derived.Test.YteioecdfimphaaaV
import Derived.Deep.Slices
import Derived.SizedLaws
namespace Go.Proofs.Yteioecdfimphaaa.Op
open Go Go.RowKit Go.Deep Go.ChangeShapes Go.WideShapes Go.Proofs.YteioecdfimphaaaW.PrintWords
set_option linter.unusedVariables false

/-- Whatever is read as a value of type T reads as one of kind k, and F holds of it. -/
def Opens {α : Type} (P : Program) (T : TypeId) (k : Kd α) (F : α → Prop) : Prop :=
  P.cellsOf T = k.sz ∧ ∀ (H : Type) (enc : TypeId × Value → H) (w : World) (spare : Nat → Bool) (held : Bool) (fuel : Nat) (cs : List Value) (d : DataW H) (ps : List MemPlace),
    DataW.trod enc P w 0 spare held fuel T cs = some (d, ps) → (∀ n ∈ d.weights P T, n ≤ reachBytes) → ∃ x, k.K w x cs ∧ F x

theorem Opens.imp {α : Type} {P : Program} {T : TypeId} {k : Kd α} {F G : α → Prop} (h : Opens P T k F) (hi : ∀ x, F x → G x) : Opens P T k G :=
  ⟨h.1, fun H enc w spare held fuel cs d ps ht hn => by
    obtain ⟨x, hK, hF⟩ := h.2 H enc w spare held fuel cs d ps ht hn
    exact ⟨x, hK, hi x hF⟩⟩
theorem opens_int {P : Program} {T : TypeId} {ik : IntKind} (hu : P.underlying T = some (.int ik)) (hc : P.cellsOf T = 1) : Opens P T (Kd.int ik) (fun x => (Lit.int ik x).wf = true) :=
  ⟨hc, fun H enc w spare held fuel cs d ps h _ => by
    obtain ⟨n, rfl, _, hw⟩ := DataW.trod_int hu h
    exact ⟨n, rfl, hw⟩⟩
theorem opens_bool {P : Program} {T : TypeId} (hu : P.underlying T = some .bool) (hc : P.cellsOf T = 1) : Opens P T Kd.bool (fun _ => True) :=
  ⟨hc, fun H enc w spare held fuel cs d ps h _ => by
    obtain ⟨b, rfl, _⟩ := DataW.trod_bool hu h
    exact ⟨b, rfl, trivial⟩⟩
theorem opens_string {P : Program} {T : TypeId} (hu : P.underlying T = some .string) (hc : P.cellsOf T = 1) : Opens P T Kd.string (fun s => s.size ≤ 140737488351232) :=
  ⟨hc, fun H enc w spare held fuel cs d ps h hn => by
    obtain ⟨s, rfl, hx, _⟩ := DataW.trod_string hu h
    obtain ⟨rfl, rfl⟩ := Prod.mk.inj hx
    refine ⟨s, rfl, ?_⟩
    have h1 := hn s.data.toList.length (by unfold DataW.weights; exact List.mem_singleton.2 rfl)
    have e2 : s.data.toList.length = s.size := by rw [Array.length_toList]; rfl
    rw [e2] at h1; exact h1⟩

theorem weights_mem_all {H : Type} {P : Program} {e : TypeId} : ∀ {ds : List (DataW H)} {d : DataW H}, d ∈ ds → ∀ n ∈ d.weights P e, n ∈ DataW.weightsAll P e ds
  | d0 :: ds, d, hd, n, hn => by
    simp only [DataW.weightsAll, List.mem_append]
    rcases List.mem_cons.1 hd with rfl | h
    · exact Or.inl hn
    · exact Or.inr (weights_mem_all h n hn)
theorem build_list {α : Type} (p : Nat → α → Prop) : ∀ n, (∀ i, i < n → ∃ x, p i x) → ∃ xs : List α, xs.length = n ∧ ∀ (i : Nat) (x : α), xs[i]? = some x → p i x
  | 0, _ => ⟨[], rfl, fun i x h => by simp at h⟩
  | n + 1, h => by
    obtain ⟨xs, hl, hp⟩ := build_list p n (fun i hi => h i (by omega))
    obtain ⟨x, hx⟩ := h n (by omega)
    refine ⟨xs ++ [x], by simp [hl], fun i y hy => ?_⟩
    by_cases hi : i < n
    · exact hp i y (by rwa [List.getElem?_append_left (by omega)] at hy)
    · rw [List.getElem?_append_right (by omega)] at hy
      obtain ⟨hz, hq⟩ : i - xs.length = 0 ∧ y = x := by
        cases hz : i - xs.length with
        | zero => rw [hz] at hy; simp at hy; exact ⟨rfl, hy.symm⟩
        | succ j => rw [hz] at hy; simp at hy
      have hin : i = n := by omega
      rw [hin, hq]; exact hx

theorem opens_slice {α : Type} {P : Program} {T e : TypeId} {k : Kd α} {F : α → Prop} (hu : P.underlying T = some (.slice e)) (hc : P.cellsOf T = 1) (hE : Opens P e k F) :
    Opens P T (Kd.slice e k) (fun xs => (∀ x ∈ xs, F x) ∧ xs.length * P.bytesOf e ≤ 140737488351232) :=
  ⟨hc, fun H enc w spare held fuel cs d ps h hn => by
    rcases open_slice hu h with ⟨rfl, hx⟩ | ⟨a, len, cap, m, n, D, Pl, rfl, hb, hl, hm, hmm, hx, hel⟩
    · exact ⟨[], ⟨none, 0, rfl, Nat.le_refl _, Kd.C_nil _ _⟩, fun x hx => by simp at hx, by simp⟩
    · obtain ⟨rfl, rfl⟩ := Prod.mk.inj hx
      have hlm : len ≤ m := by rw [hmm]; split <;> omega
      have e0 : reachBytes = 140737488351232 := rfl
      have hW : ∀ i, i < len → ∀ n ∈ (D i).weights P e, n ≤ reachBytes := fun i hi n hni => hn n (by
        simp only [DataW.weights, hu, List.mem_cons, List.mem_append]
        exact Or.inr (Or.inl (weights_mem_all (List.mem_map.2 ⟨i, by simpa using hi, rfl⟩) n hni)))
      have hS : (len + (m - len)) * P.bytesOf e ≤ reachBytes := hn _ (by
        simp only [DataW.weights, hu, List.mem_cons]
        left; simp)
      obtain ⟨xs, hlen, hp⟩ := build_list (fun i x => ∃ cs', w.cells? 0 (a.add (i * k.sz)) k.sz = some cs' ∧ k.K w x cs' ∧ F x) len (fun i hi => by
        obtain ⟨cs', h1, h2⟩ := hel i (by omega)
        obtain ⟨x, hK, hF⟩ := hE.2 H enc w spare held n cs' _ _ h2 (hW i hi)
        exact ⟨x, cs', by rw [← hE.1]; exact h1, hK, hF⟩)
      subst hlen
      have hmx : cap ≤ 9223372036854775807 := by have := hm; unfold maxLen at this; omega
      refine ⟨xs, ⟨some a, cap, rfl, hl, rfl, by omega, fun _ => ⟨a, rfl, fun j p hj => ?_⟩⟩, fun x hx => ?_, ?_⟩
      · obtain ⟨cs', h1, hK, hF⟩ := hp j p hj
        obtain ⟨_, hcl, hcc⟩ := World.cells?_some h1
        refine ⟨cs', hcl, hK, fun i u hu => ?_⟩
        have hi : i < k.sz := by
          have := (List.getElem?_eq_some_iff.1 hu).1; omega
        have := hcc i hi
        rw [Deep.add_add] at this
        rw [this]; exact hu
      · obtain ⟨i, hi⟩ := List.mem_iff_getElem?.1 hx
        obtain ⟨_, _, _, hF⟩ := hp i x hi
        exact hF
      · have : xs.length * P.bytesOf e ≤ (xs.length + (m - xs.length)) * P.bytesOf e := Nat.mul_le_mul_right _ (by omega)
        omega⟩

def OpensFs {α : Type} (P : Program) (fs : List Field) (off : Nat) (k : Kd α) (F : α → Prop) : Prop :=
  ∀ (H : Type) (enc : TypeId × Value → H) (w : World) (spare : Nat → Bool) (held : Bool) (n : Nat) (cs : List Value) (xs : List (DataW H × List MemPlace)), cs.length = off + k.sz → xs.length = fs.length →
    (∀ (i : Nat) (f : Field), fs[i]? = some f → DataW.trod enc P w 0 spare held n f.type ((cs.drop f.offset).take (P.cellsOf f.type)) = xs[i]?) →
    (∀ n ∈ DataW.weightsEach P (fs.map (·.type)) (xs.map (·.1)), n ≤ reachBytes) → ∃ x, k.K w x (cs.drop off) ∧ F x
theorem fs_one {α : Type} {P : Program} {f : Field} {off : Nat} {k : Kd α} {F : α → Prop} (ho : f.offset = off) (hO : Opens P f.type k F) : OpensFs P [f] off k F :=
  fun H enc w spare held n cs xs hc hx hr hn => by
    subst ho
    match xs, hx with
    | [y], _ =>
      have h0 := hr 0 f rfl
      rw [hO.1, List.take_of_length_le (by rw [List.length_drop]; omega)] at h0
      exact hO.2 H enc w spare held n _ y.1 y.2 h0 (fun m hm => hn m (by simpa [DataW.weightsEach] using hm))
theorem fs_cons {α β : Type} {P : Program} {f : Field} {fs : List Field} {off off' : Nat} {k : Kd α} {k' : Kd β} {F : α → Prop} {F' : β → Prop} (ho : f.offset = off) (ho' : off + k.sz = off') (hO : Opens P f.type k F) (hR : OpensFs P fs off' k' F') :
    OpensFs P (f :: fs) off (Kd.pair k k') (fun x => F x.1 ∧ F' x.2) :=
  fun H enc w spare held n cs xs hc hx hr hn => by
    subst ho; subst ho'
    match xs, hx with
    | y :: ys, hx =>
      have hc' : cs.length = f.offset + (k.sz + k'.sz) := hc
      have h0 := hr 0 f rfl
      rw [hO.1] at h0
      obtain ⟨a, hK, hF⟩ := hO.2 H enc w spare held n _ y.1 y.2 h0 (fun m hm => hn m (by simp only [List.map_cons, DataW.weightsEach, List.mem_append]; exact Or.inl hm))
      obtain ⟨b, hK', hF'⟩ := hR H enc w spare held n cs ys (by omega) (by simpa using hx) (fun i g hg => by simpa using hr (i + 1) g (by simpa using hg)) (fun m hm => hn m (by simp only [List.map_cons, DataW.weightsEach, List.mem_append]; exact Or.inr hm))
      refine ⟨(a, b), ⟨_, _, ?_, hK, hK'⟩, hF, hF'⟩
      rw [← List.drop_drop, List.take_append_drop]
theorem opens_struct {α : Type} {P : Program} {T : TypeId} {fs : Array Field} {k : Kd α} {F : α → Prop} (hu : P.underlying T = some (.struct fs)) (hc : P.cellsOf T = k.sz) (hf : OpensFs P fs.toList 0 k F) : Opens P T k F :=
  ⟨hc, fun H enc w spare held fuel cs d ps h hn => by
    obtain ⟨xs, n, _, hx, hl, hxl, hr⟩ := DataW.trod_struct hu h
    obtain ⟨rfl, rfl⟩ := Prod.mk.inj hx
    have := hf H enc w spare held n cs xs (by omega) (by simpa using hxl) (fun i f hi => hr i f (by simpa using hi)) (fun m hm => hn m (by simp only [DataW.weights, hu]; exact hm))
    simpa using this⟩
theorem opens_iso {α β : Type} {P : Program} {T : TypeId} {k : Kd α} {F : α → Prop} (f : β → α) (g : α → β) (hfg : ∀ a, f (g a) = a) (hO : Opens P T k F) : Opens P T (Kd.iso k f) (fun b => F (f b)) :=
  ⟨hO.1, fun H enc w spare held fuel cs d ps h hn => by
    obtain ⟨x, hK, hF⟩ := hO.2 H enc w spare held fuel cs d ps h hn
    refine ⟨g x, ?_, ?_⟩
    · show k.K w (f (g x)) cs; rw [hfg]; exact hK
    · show F (f (g x)); rw [hfg]; exact hF⟩

/-- A parameter that is a struct by value. -/
theorem param_struct {α H : Type} {P : Program} {T : TypeId} {fs : Array Field} {k : Kd α} {F : α → Prop} {enc : TypeId × Value → H} {w : World} {r : Reach} {b : Nat} {spare : Nat → Bool} {held : Bool} {v : Value} {d : DataW H} {p : List MemPlace}
    (hu : P.underlying T = some (.struct fs)) (hO : Opens P T k F) (hv : Value.okWide P w r b T v) (h : DataW.Trod enc P w 0 spare held T v d p) (hn : ∀ n ∈ d.weights P T, n ≤ reachBytes) :
    ∃ x cs, v = .agg cs ∧ k.K w x cs.toList ∧ F x := by
  obtain ⟨cs, rfl, _⟩ := okWide_struct hu hv
  obtain ⟨fuel, hf⟩ := h
  obtain ⟨x, hK, hF⟩ := hO.2 H enc w spare held fuel _ d p hf hn
  exact ⟨x, cs, rfl, hK, hF⟩
/-- A parameter that is a slice. -/
theorem param_slice {α H : Type} {P : Program} {T e : TypeId} {k : Kd α} {F : List α → Prop} {enc : TypeId × Value → H} {w : World} {b : Nat} {spare : Nat → Bool} {held : Bool} {v : Value} {d : DataW H} {p : List MemPlace}
    (hu : P.underlying T = some (.slice e)) (hO : Opens P T (Kd.slice e k) F) (hv : Value.okWide P w .any b T v) (h : DataW.Trod enc P w 0 spare held T v d p) (hn : ∀ n ∈ d.weights P T, n ≤ reachBytes) :
    ∃ xs A c, v = .slice A xs.length c ∧ xs.length ≤ c ∧ k.C w A xs.length xs ∧ F xs := by
  obtain ⟨a0, len, cap, rfl⟩ := okWide_slice hu hv
  obtain ⟨fuel, hf⟩ := h
  obtain ⟨x, ⟨A, c, he, hl, hC⟩, hF⟩ := hO.2 H enc w spare held fuel _ d p hf hn
  simp only [Value.cells] at he
  exact ⟨x, A, c, (List.cons.inj he).1, hl, hC, hF⟩
/-- A parameter's weights, out of all. -/
theorem param_weights {H : Type} {P : Program} {ts : List TypeId} {ds : List (DataW H)} (h : (DataW.weightsEach P ts ds).all (· ≤ reachBytes) = true) {j : Nat} {t : TypeId} {d : DataW H} (ht : ts[j]? = some t) (hd : ds[j]? = some d) : ∀ n ∈ d.weights P t, n ≤ reachBytes :=
  fun n hn => by simpa using List.all_eq_true.1 h n (DataW.weights_mem_each ht hd n hn)
end Go.Proofs.Yteioecdfimphaaa.Op
