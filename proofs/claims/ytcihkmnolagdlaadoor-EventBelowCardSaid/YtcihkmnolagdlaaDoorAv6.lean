/- The machine does what each operation's law says. No condition. -/
import Derived.Test.YtcihkmnolagdlaaDoorAv5
namespace Go.Proofs.YtcihkmnolagdlaaDoor.Av
open Go Go.RowKit
set_option linter.unusedVariables false
set_option linter.unusedSimpArgs false

section
variable {P : Program} {o : Oper} {st : St} {k : G → St → Prop} {C : Cx} {F : Fd} {a : Act} {w : World}

theorem after_same (hi : Inv C F st a w) {g : G} {v : Value} (hk : k g st) (hr : Rep C w g v) : After F k a v w := ⟨C, g, st, hk, hi, hr⟩

theorem goes_pure {g : G} {v : Value} {op : Op} (ho : o.op = op) (hi : Inv C F st a w) (hrun : ∀ o' : Oper, o'.op = op → o'.type = o.type → (execOp a.eval o').run P w = .ok (.value v) w) (hk : k g st) (hr : Rep C w g v) : Goes P o a w (After F k a) :=
  ⟨v, w, .inl (hrun o ho rfl), after_same hi hk hr⟩

theorem foldG_sound {f : G → G → Option G} {f' : Value → Value → Sem Value} (hf : ∀ x y g u v, f x y = some g → Rep C w x u → Rep C w y v → ∃ z, (f' u v).run P w = .ok z w ∧ Rep C w g z) :
    ∀ (xs : List G) (x g : G) (u : Value) (vs : List Value), foldG f x xs = some g → Rep C w x u → vs.length = xs.length → (∀ (i : Nat) g v, xs[i]? = some g → vs[i]? = some v → Rep C w g v) → ∃ z, (vs.foldlM f' u).run P w = .ok z w ∧ Rep C w g z
  | [], x, g, u, vs, h, hx, hl, hr => by
    obtain rfl : vs = [] := List.length_eq_zero_iff.1 hl
    rw [foldG] at h; cases h
    exact ⟨u, rfl, hx⟩
  | y :: xs, x, g, u, [], h, hx, hl, hr => by simp at hl
  | y :: xs, x, g, u, v :: vs, h, hx, hl, hr => by
    rw [foldG] at h
    split at h
    · rename_i z hz
      obtain ⟨z', h1, h2⟩ := hf x y z u v hz hx (hr 0 y v rfl rfl)
      obtain ⟨q, h3, h4⟩ := foldG_sound hf xs z g z' vs h h2 (by simpa using hl) (fun i g v hg hv => hr (i + 1) g v (by simpa using hg) (by simpa using hv))
      exact ⟨q, by rw [List.foldlM_cons, Sem.run_bind, h1]; exact h3, h4⟩
    · cases h
theorem min2_ok (x y g : G) (u v : Value) (h : min2G x y = some g) (hx : Rep C w x u) (hy : Rep C w y v) : ∃ z, (Builtin.min2 u v).run P w = .ok z w ∧ Rep C w g z := by
  unfold min2G at h
  split at h
  · obtain rfl := hx.int_inv
    obtain rfl := hy.int_inv
    obtain rfl := Option.some.inj h
    exact ⟨_, rfl, .int ..⟩
  · cases h
theorem max2_ok (x y g : G) (u v : Value) (h : max2G x y = some g) (hx : Rep C w x u) (hy : Rep C w y v) : ∃ z, (Builtin.max2 u v).run P w = .ok z w ∧ Rep C w g z := by
  unfold max2G at h
  split at h
  · obtain rfl := hx.int_inv
    obtain rfl := hy.int_inv
    obtain rfl := Option.some.inj h
    exact ⟨_, rfl, .int ..⟩
  · cases h

theorem okReg_cases {g : G} (h : okReg g = true) : g.cell = true ∨ ∃ gs, g = .agg gs := by
  unfold okReg at h
  cases g <;> first | exact .inl rfl | exact .inr ⟨_, rfl⟩ | simp [G.cell] at h

theorem fill_sound (pl : Nat → Option (Nat × Nat)) (hi : Inv C F st a w) :
    ∀ (parts : List (Nat × Operand)) (cs gs : List G) (vs : List Value), buildCells pl st cs parts = some gs → RepL C w cs vs → (∀ g ∈ cs, g.cell = true) →
      ∃ us, Instr.fill pl ⟨vs⟩ (parts.map fun (i, x) => (i, a.eval x)) = some ⟨us⟩ ∧ RepL C w gs us ∧ (∀ g ∈ gs, g.cell = true)
  | [], cs, gs, vs, h, hr, hc => by
    rw [buildCells] at h; cases h
    exact ⟨vs, rfl, hr, hc⟩
  | (i, x) :: parts, cs, gs, vs, h, hr, hc => by
    rw [buildCells] at h
    split at h
    · cases h
    · rename_i o n hf
      split at h
      · rename_i hb
        simp only [Bool.and_eq_true, beq_iff_eq] at hb
        obtain ⟨⟨b1, b2⟩, b3⟩ := hb
        rw [fL_eq] at h
        have b3 := Nat.le_of_ble_eq_true b3
        obtain ⟨r1, r2, r3⟩ := (hi.ev x).cells (okReg_cases b1)
        have hl := hr.1
        have key : ∀ (ws : List Value) (zs : List Value) (p : Nat), p + ws.length ≤ zs.length → ((Array.mk ws).zipIdx.foldl (fun cs (q : Value × Nat) => cs.setIfInBounds (p + q.2) q.1) (Array.mk zs)) = Array.mk (blit zs p ws) := by
          intro ws zs p hle
          rw [← Array.foldl_toList]
          simp only [Array.toList_zipIdx]
          have gen : ∀ (ws zs : List Value) (p j : Nat), p + j + ws.length ≤ zs.length → (ws.zipIdx j).foldl (fun cs (q : Value × Nat) => cs.setIfInBounds (p + q.2) q.1) (Array.mk zs) = Array.mk (blit zs (p + j) ws) := by
            intro ws
            induction ws with
            | nil => intro zs p j _; rw [blit_nil]; rfl
            | cons u ws ih =>
              intro zs p j hle
              simp only [List.length_cons] at hle
              rw [List.zipIdx_cons, List.foldl_cons, blit_cons]
              have e : (Array.mk zs).setIfInBounds (p + j) u = Array.mk (zs.set (p + j) u) := by
                apply Array.toList_inj.1; simp
              simp only [e]
              rw [ih _ p (j + 1) (by simp; omega)]; rfl
          simpa using gen ws zs p 0 (by omega)
        obtain ⟨us, h1, h2, h3⟩ := fill_sound pl hi parts (blit cs o (st.ev x).cells) gs (blit vs o (a.eval x).cells.toList) h
          ⟨by rw [blit_length, blit_length, hl], fun v hv => by
            obtain ⟨j, hj⟩ := List.mem_iff_getElem?.1 hv
            rw [blit_get _ _ _ _ (by omega)] at hj
            split at hj
            · exact r2 v (List.mem_of_getElem? hj)
            · exact hr.2.1 v (List.mem_of_getElem? hj), fun j g v hg hv => by
            rw [blit_get _ _ _ _ (by omega)] at hg hv
            rw [r1] at hv
            split at hg
            · rename_i hc; rw [if_pos hc] at hv; exact (r3 _ g v hg hv).2
            · rename_i hc; rw [if_neg hc] at hv; exact hr.2.2 _ g v hg hv⟩
          (fun g hg => by
            obtain ⟨j, hj⟩ := List.mem_iff_getElem?.1 hg
            rw [blit_get _ _ _ _ (by omega)] at hj
            split at hj
            · have hlt : j - o < (a.eval x).cells.toList.length := by rw [r1]; exact (List.getElem?_eq_some_iff.1 hj).1
              exact (r3 _ g _ hj (List.getElem?_eq_getElem hlt)).1
            · exact hc g (List.mem_of_getElem? hj))
        refine ⟨us, ?_, h2, h3⟩
        rw [List.map_cons, Instr.fill, hf]
        simp only
        rw [if_neg (by
          simp only [Bool.or_eq_true, decide_eq_true_eq, not_or]
          have e : (a.eval x).cells.size = (a.eval x).cells.toList.length := (Array.length_toList).symm
          refine ⟨by rw [e, r1, b2]; simp, ?_⟩
          rw [e, r1]; simp; omega)]
        have e2 : (a.eval x).cells = Array.mk (a.eval x).cells.toList := rfl
        rw [show ((a.eval x).cells.zipIdx.foldl (fun cs (x_1 : Value × Nat) => cs.setIfInBounds (o + x_1.2) x_1.1) (Array.mk vs)) = Array.mk (blit vs o (a.eval x).cells.toList) from key (a.eval x).cells.toList vs o (by rw [r1, b2, hl]; exact b3)]
        exact h1
      · cases h

theorem run_places : ∀ (fs : List Field), (∀ f ∈ fs, (P.info? f.type).isSome = true) → (fs.mapM (fun f => do pure (f.offset, ← sizeOf f.type) : Field → Sem (Nat × Nat))).run P w = .ok (fs.map fun f => (f.offset, P.cellsOf f.type)) w
  | [], _ => rfl
  | f :: fs, h => by
    obtain ⟨i, hi⟩ := Option.isSome_iff_exists.1 (h f (by simp))
    rw [List.mapM_cons, Sem.run_bind, Sem.run_bind, Go.run_sizeOf w hi]
    simp only [Result.andThen_ok, Sem.run_pure, Sem.run_bind, run_places fs (fun g hg => h g (by simp [hg])), List.map_cons]
theorem run_field {s : TypeId} {f : Nat} {fl : Field} (h : fieldOf P s f = some fl) : ∃ fs, P.underlying s = some (.struct fs) ∧ fs[f]? = some fl := by
  unfold fieldOf at h
  split at h
  · exact ⟨_, by assumption, h⟩
  · cases h
theorem run_fieldAt {s : TypeId} {f : Nat} {fl : Field} (h : fieldOf P s f = some fl) (hz : P.cellsOf fl.type ≠ 0) (hi : (P.info? fl.type).isSome = true) (B o : Nat) :
    (Instr.fieldAt s (.pointer (some ⟨B, o, none⟩)) f).run P w = .ok (.pointer (some ⟨B, o + fl.offset, none⟩)) w := by
  obtain ⟨fs, hu, hf⟩ := run_field h
  obtain ⟨i, hi⟩ := Option.isSome_iff_exists.1 hi
  unfold Instr.fieldAt
  simp only [Sem.run_bind, run_underlying hu, Result.andThen_ok, hf, Instr.sureAddr, Sem.run_pure, fieldPlace, Go.run_sizeOf w hi]
  rw [if_neg hz]
  simp only [Sem.run_pure, Result.andThen_ok, addr_add]

theorem boundP_run {x : Option Operand} {dflt : Nat} {kk : Nat → Int → Prop} (h : boundP (x.map st.ev) dflt kk) (hi : Inv C F st a w) : ∃ (n : Nat) (z : Int), kk n z ∧ ((x = none ∧ n = dflt ∧ z = dflt) ∨ ∃ X kd, x = some X ∧ a.eval X = .int kd z ∧ n = z.toNat) := by
  unfold boundP at h
  cases x with
  | none => exact ⟨_, _, h, .inl ⟨rfl, rfl, rfl⟩⟩
  | some X =>
    simp only [Option.map_some] at h
    have hr := hi.ev X
    cases hg : st.ev X with
    | int kd n => rw [hg] at h hr; exact ⟨_, _, h, .inr ⟨X, kd, rfl, hr.int_inv, rfl⟩⟩
    | _ => rw [hg] at h; exact h.elim
theorem run_bounds {lo hi' : Option Operand} {isS : Bool} {len cap l h : Nat} {lz hz : Int} (hh : (hi' = none ∧ h = len ∧ hz = len) ∨ ∃ X kd, hi' = some X ∧ a.eval X = .int kd hz ∧ h = hz.toNat)
    (hl : (lo = none ∧ l = 0 ∧ lz = 0) ∨ ∃ X kd, lo = some X ∧ a.eval X = .int kd lz ∧ l = lz.toNat) (h0 : 0 ≤ lz) (h1 : lz ≤ hz) (h2 : hz ≤ len) (hc : len ≤ cap) :
    (Instr.sliceBounds isS len cap (lo.map a.eval) (hi'.map a.eval) none).run P w = .ok (l, h, cap) w := by
  unfold Instr.sliceBounds
  rcases hh with ⟨rfl, rfl, rfl⟩ | ⟨X, kd, rfl, e1, rfl⟩ <;> rcases hl with ⟨rfl, rfl, rfl⟩ | ⟨Y, kd', rfl, e2, rfl⟩
  · simp
  · simp only [Option.map_some, Option.map_none, e2, Instr.sliceBound, asIntOf, Sem.run_bind, Sem.run_pure, Result.andThen_ok, pure_bind, Sem.run_ite]
    rw [if_pos (by constructor <;> omega)]
    simp
  · simp only [Option.map_some, Option.map_none, e1, Instr.sliceBound, asIntOf, Sem.run_bind, Sem.run_pure, Result.andThen_ok, pure_bind, Sem.run_ite]
    rw [if_pos (by constructor <;> omega)]
    simp
  · simp only [Option.map_some, Option.map_none, e1, e2, Instr.sliceBound, asIntOf, Sem.run_bind, Sem.run_pure, Result.andThen_ok, pure_bind, Sem.run_ite]
    rw [if_pos (by constructor <;> omega)]
    simp only [Result.andThen_ok, Sem.run_bind, Sem.run_pure, Sem.run_ite]
    rw [if_pos (by constructor <;> omega)]
    simp

theorem slice_sl {xs : List (List G)} {A : Option Addr} {n cap : Nat} (hr : Rep C w (.sl xs) (.slice A n cap)) {l h sz : Nat} (h1 : l ≤ h) (h2 : h ≤ xs.length) (hs : ∀ r ∈ xs, r.length = sz) :
    Rep C w (.sl ((xs.take h).drop l)) (.slice (if cap = l then A else A.map (·.add (l * sz))) (h - l) (cap - l)) := by
  cases hr with
  | slnil A cap hA =>
    obtain rfl : h = 0 := by simpa using h2
    obtain rfl : l = 0 := by omega
    exact .slnil _ _ (fun e => by
      have h0 : A = none := by
        cases A with
        | none => rfl
        | some a => split at e <;> cases e
      simpa using hA h0)
  | sl _ a _ sz' f ha hlt hex hcap hsz hcl hcell hrep =>
    have hlen : ((xs.take h).drop l).length = h - l := by simp; omega
    have hget : ∀ i, ((xs.take h).drop l)[i]? = if l + i < h then xs[l + i]? else none := fun i => by rw [List.getElem?_drop, List.getElem?_take]
    have hmem : ∀ r ∈ (xs.take h).drop l, r ∈ xs := fun r hr => List.mem_of_mem_take (List.mem_of_mem_drop hr)
    by_cases he : (xs.take h).drop l = []
    · rw [he] at hlen ⊢
      have e0 : h - l = 0 := by simpa using hlen.symm
      rw [e0]
      split
      · refine .sl [] a (cap - l) sz f ha hlt hex (by simp) (fun r hr => by cases hr) (fun r hr => by cases hr) (fun i r j g hi => by cases hi) (fun i r j g hi => by cases hi)
      · refine .sl [] (a.add (l * sz)) (cap - l) sz f ?_ ?_ ?_ (by simp) (fun r hr => by cases hr) (fun r hr => by cases hr) (fun i r j g hi => by cases hi) (fun i r j g hi => by cases hi)
        · unfold Addr.add; split; exact ha; rfl
        · unfold Addr.add; split; exact hlt; exact hlt
        · unfold Addr.add; split; exact hex; exact hex
    · have hpos : 0 < h - l := by
        rcases Nat.eq_zero_or_pos (h - l) with e | e
        · exact absurd (List.length_eq_zero_iff.1 (by rw [hlen, e])) he
        · exact e
      have hx0 : ∃ r, r ∈ xs := ⟨xs[l]'(by omega), List.getElem_mem _⟩
      obtain ⟨r0, hr0⟩ := hx0
      have ez : sz = sz' := (hs r0 hr0).symm.trans (hsz r0 hr0)
      subst ez
      rw [if_neg (by omega), ← hlen]
      have ea : a.add (l * sz) = ⟨a.block, a.off + l * sz, none⟩ := by
        obtain ⟨ab, ao, asp⟩ := a
        simp only at ha; subst ha
        exact addr_add _ _ _
      show Rep C w _ (.slice (some (a.add (l * sz))) _ _)
      rw [ea]
      refine .sl _ ⟨a.block, a.off + l * sz, none⟩ (cap - l) sz (fun i j => f (l + i) j) rfl hlt hex (by rw [hlen]; omega) (fun r hr => hs r (hmem r hr)) (fun r hr => hcl r (hmem r hr)) (fun i r j g hi hj => ?_) (fun i r j g hi hj => ?_)
      · rw [hget] at hi
        split at hi
        · have := hcell (l + i) r j g hi hj
          rw [show a.off + l * sz + i * sz + j = a.off + (l + i) * sz + j from by rw [Nat.add_mul]; omega]
          exact this
        · cases hi
      · rw [hget] at hi
        split at hi
        · exact hrep (l + i) r j g hi hj
        · cases hi
end
end Go.Proofs.YtcihkmnolagdlaaDoor.Av
