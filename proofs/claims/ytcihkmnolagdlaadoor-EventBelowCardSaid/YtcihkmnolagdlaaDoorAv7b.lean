/- Appending to rows, making them, and storing into them. No condition. -/
import Derived.Test.YtcihkmnolagdlaaDoorAv7
namespace Go.Proofs.YtcihkmnolagdlaaDoor.Av
open Go Go.RowKit
set_option linter.unusedVariables false
set_option linter.unusedSimpArgs false

/-- Cells one behind the other that read as rows. -/
structure Cols (C : Cx) (w : World) (sz : Nat) (ys : List (List G)) (ws : List Value) : Prop where
  len : ws.length = ys.length * sz
  one : ∀ v ∈ ws, v.oneCell' = true
  row : ∀ r ∈ ys, r.length = sz ∧ ∀ g ∈ r, g.closed0 = true
  rep : ∀ (i : Nat) r (j : Nat) g v, ys[i]? = some r → r[j]? = some g → ws[i * sz + j]? = some v → Rep C w g v

def okRows (n : Nat) (ys : List (List G)) : Bool := ys.all fun r => r.length == n && r.all G.closed0
def srcP (st : St) (x : G) (k : List (List G) → Prop) : Prop :=
  match x with
  | .nils => k []
  | .emp => k []
  | .ne => k []
  | .sl ys => k ys
  | .own kk off len => match st.rows.getD kk none with
    | some xs => off + len ≤ xs.length ∧ k ((xs.drop off).take len)
    | none => False
  | .str s => k (s.data.toList.map fun b => [G.int .u8 b.toNat])
  | _ => False
def fitsB (P : Program) (e : TypeId) (n : Nat) : Prop := (2 * n + 1024) * P.bytesOf e ≤ 281474976710656
def isInt : TypeDesc → Bool
  | .int _ => true
  | _ => false
def appP (P : Program) (d : Nat) (s x : G) (tS tX : TypeId) (st : St) (k : G → St → Prop) : Prop :=
  match P.underlying tS, P.underlying tX with
  | some (.slice e), some dX =>
    bif isInt dX || (P.bytesOf e == 0) || (zeroCells P e).isNone || (P.cellsOf e == 0) || !(Nat.blt d st.rows.length) then False else
    srcP st x fun ys => bif okRows (P.cellsOf e) ys then (match s with
      | .nils => fitsB P e ys.length ∧ k (.own d 0 ys.length) ((st.freeRow d).setRow d ys)
      | .emp => fitsB P e ys.length ∧ k (.own d 0 ys.length) ((st.freeRow d).setRow d ys)
      | .own kk off len => match st.rows.getD kk none with
        | some xs => (off + len ≤ xs.length ∧ (0 < len + ys.length ∨ xs = []) ∧ fitsB P e (len + ys.length) ∧ ∀ r ∈ xs, r.length = P.cellsOf e) ∧ k (.own kk 0 (len + ys.length)) ((st.killR kk).setRow kk ((xs.drop off).take len ++ ys))
        | none => False
      | .nilt => bif Nat.beq (P.cellsOf e) 1 then fitsB P e ys.length ∧ k (.ownt d ys.length e) ((st.freeRow d).setRow d ys) else False
      | .ownt kk len T => bif Nat.beq T e && Nat.beq (P.cellsOf e) 1 then (match st.rows.getD kk none with
        | some xs => (0 + len ≤ xs.length ∧ (0 < len + ys.length ∨ xs = []) ∧ fitsB P e (len + ys.length) ∧ ∀ r ∈ xs, r.length = P.cellsOf e) ∧ k (.ownt kk (len + ys.length) e) ((st.killR kk).setRow kk ((xs.drop 0).take len ++ ys))
        | none => False) else False
      | _ => False) else False
  | _, _ => False

theorem okRows_iff {n : Nat} {ys : List (List G)} (h : okRows n ys = true) : ∀ r ∈ ys, r.length = n ∧ ∀ g ∈ r, g.closed0 = true := fun r hr => by
  have := List.all_eq_true.1 h r hr
  simp only [Bool.and_eq_true, beq_iff_eq, List.all_eq_true] at this
  exact this

section
variable {P : Program} {C : Cx} {F : Fd} {st : St} {a : Act} {w : World}

theorem mul_lt {i n j sz : Nat} (hi : i < n) (hj : j < sz) : i * sz + j < n * sz := by
  have : (i + 1) * sz ≤ n * sz := Nat.mul_le_mul_right _ hi
  rw [Nat.succ_mul] at this; omega

theorem src_sound {x : G} {k : List (List G) → Prop} (h : srcP st x k) (hi : Inv C F st a w) {v : Value} (hx : Rep C w x v) {sz : Nat} (hsz : 0 < sz) :
    ∃ ys, k ys ∧ (Builtin.lenOf v).run P w = .ok ys.length w ∧ ((∀ r ∈ ys, r.length = sz ∧ ∀ g ∈ r, g.closed0 = true) → ∃ ws, (∀ w2, w2.heap = w.heap → (Builtin.firstCells sz ys.length v).run P w2 = .ok ⟨ws⟩ w2) ∧ Cols C w sz ys ws) := by
  have list : ∀ (ys : List (List G)) (B o : Nat) (f : Nat → Nat → Value), (∀ r ∈ ys, r.length = sz ∧ ∀ g ∈ r, g.closed0 = true) →
      (∀ (i : Nat) r (j : Nat) g, ys[i]? = some r → r[j]? = some g → w.cell? ⟨B, o + i * sz + j, none⟩ = some (f i j) ∧ Rep C w g (f i j)) →
      ∃ ws, (∀ w2, w2.heap = w.heap → (loadCells ⟨B, o, none⟩ (ys.length * sz)).run P w2 = .ok ⟨ws⟩ w2) ∧ Cols C w sz ys ws := fun ys B o f hr hc => by
    let ws : List Value := (List.range (ys.length * sz)).map fun q => f (q / sz) (q % sz)
    have hget : ∀ q, q < ys.length * sz → ∃ r g, ys[q / sz]? = some r ∧ r[q % sz]? = some g := fun q hq => by
      have h1 : q / sz < ys.length := Nat.div_lt_of_lt_mul (by rw [Nat.mul_comm]; exact hq)
      have h2 : q % sz < sz := Nat.mod_lt _ hsz
      have h3 := (hr _ (List.getElem_mem h1)).1
      exact ⟨ys[q / sz], _, List.getElem?_eq_getElem h1, List.getElem?_eq_getElem (by rw [h3]; exact h2)⟩
    have hws : ∀ (q : Nat) v, ws[q]? = some v → q < ys.length * sz ∧ v = f (q / sz) (q % sz) := fun q v hq => by
      have hlt : q < ys.length * sz := by have := (List.getElem?_eq_some_iff.1 hq).1; simpa [ws] using this
      simp [ws, List.getElem?_map, List.getElem?_range hlt] at hq
      exact ⟨hlt, hq.symm⟩
    have hl : ws.length = ys.length * sz := by simp [ws]
    refine ⟨ws, ?_, hl, fun v hv => ?_, hr, fun i r j g v h1 h2 h3 => ?_⟩
    · intro w2 hw2
      rw [← hl]
      refine run_loadCells_list w2 _ ws fun q v hq => ?_
      have hcw : ∀ A, w2.cell? A = w.cell? A := fun A => by unfold World.cell?; rw [hw2]
      rw [hcw]
      obtain ⟨hlt, rfl⟩ := hws q v hq
      obtain ⟨r, g, g1, g2⟩ := hget q hlt
      rw [addr_add]
      have := (hc _ r _ g g1 g2).1
      rw [Nat.add_assoc, Nat.mul_comm (q / sz) sz, Nat.div_add_mod] at this
      exact this
    · obtain ⟨q, hq⟩ := List.mem_iff_getElem?.1 hv
      obtain ⟨hlt, rfl⟩ := hws q v hq
      obtain ⟨r, g, g1, g2⟩ := hget q hlt
      exact (hc _ r _ g g1 g2).2.oneCell (closed0_cell ((hr r (List.mem_of_getElem? g1)).2 g (List.mem_of_getElem? g2)))
    · have hj : j < sz := by rw [← (hr r (List.mem_of_getElem? h1)).1]; exact (List.getElem?_eq_some_iff.1 h2).1
      obtain ⟨_, rfl⟩ := hws _ v h3
      have e1 : (i * sz + j) / sz = i := by rw [Nat.mul_comm, Nat.mul_add_div hsz, Nat.div_eq_of_lt hj]; rfl
      have e2 : (i * sz + j) % sz = j := by rw [Nat.mul_comm, Nat.mul_add_mod, Nat.mod_eq_of_lt hj]
      rw [e1, e2]
      exact (hc i r j g h1 h2).2
  unfold srcP at h
  split at h
  · cases hx with
    | nils => exact ⟨[], h, rfl, fun _ => ⟨[], fun w2 _ => by simp [Builtin.firstCells], by simp, by simp, by simp, by simp⟩⟩
  · cases hx with
    | emp A => exact ⟨[], h, rfl, fun _ => ⟨[], fun w2 _ => by cases A <;> simp [Builtin.firstCells, loadCells, loadCellsFrom], by simp, by simp, by simp, by simp⟩⟩
  · cases hx with
    | ne a cap => exact ⟨[], h, rfl, fun _ => ⟨[], fun w2 _ => by simp [Builtin.firstCells, loadCells, loadCellsFrom], by simp, by simp, by simp, by simp⟩⟩
  · rename_i ys
    cases hx with
    | slnil A cap _ => exact ⟨[], h, rfl, fun _ => ⟨[], fun w2 _ => by cases A <;> simp [Builtin.firstCells, loadCells, loadCellsFrom], by simp, by simp, by simp, by simp⟩⟩
    | sl _ A cap sz' f ha hlt hex hcap hsz' hcl hcell hrep =>
      refine ⟨ys, h, rfl, fun hr => ?_⟩
      obtain ⟨ab, ao, asp⟩ := A
      simp only at ha; subst ha
      refine list ys ab ao f hr fun i r j g h1 h2 => ?_
      have e : sz' = sz := by rw [← hsz' r (List.mem_of_getElem? h1)]; exact (hr r (List.mem_of_getElem? h1)).1
      subst e
      exact ⟨hcell i r j g h1 h2, hrep i r j g h1 h2⟩
  · rename_i kk off len
    split at h
    · rename_i xs hxs
      obtain ⟨hle, h⟩ := h
      have hlen : ((xs.drop off).take len).length = len := by simp; omega
      refine ⟨_, h, ?_, fun hr => ?_⟩
      · cases hx <;> (rw [hlen]; rfl)
      · cases hx with
        | ownnil _ A hk => exact ⟨[], fun w2 _ => by cases A <;> simp [Builtin.firstCells, loadCells, loadCellsFrom], by simp, by simp, by simp, by simp⟩
        | own _ _ _ B s sz' n A hk ho hA hn0 =>
          rcases hi.mem.row2 (rowsOf hxs) (fun km => km.np hk hn0) with k1 | ⟨B', s', z', n', vs, T, fz, k1, k2, k3, k4, k5, k6, k6b, k7, k8⟩
          · rw [hk] at k1; cases k1.1
          · rw [hk] at k1; cases k1
            rcases Nat.eq_zero_or_pos len with e0 | hpos
            · subst e0
              obtain ⟨ab, ao, asp⟩ := A
              exact ⟨[], fun w2 _ => by simp [Builtin.firstCells, loadCells, loadCellsFrom], by simp, by simp, by simp, by simp⟩
            · obtain rfl := hA.1 (by omega)
              have hget : ∀ (i : Nat) r, ((xs.drop off).take len)[i]? = some r → xs[off + i]? = some r := fun i r hir => by
                rw [List.getElem?_take] at hir
                split at hir
                · rwa [List.getElem?_drop] at hir
                · cases hir
              have hx0 : ∃ r, r ∈ (xs.drop off).take len := ⟨((xs.drop off).take len)[0]'(by rw [hlen]; exact hpos), List.getElem_mem _⟩
              obtain ⟨r0, hr0⟩ := hx0
              have e : sz' = sz := by rw [← (hr r0 hr0).1]; exact ((k7 r0 (List.mem_of_mem_drop (List.mem_of_mem_take hr0))).1).symm
              subst e
              have := list _ B (s + off * sz') (fun i j => vs.getD (s + (off + i) * sz' + j) undef) hr (fun i r j g h1 h2 => by
                have hrow := hget i r h1
                have hj0 : j < sz' := by rw [← (hr r (List.mem_of_getElem? h1)).1]; exact (List.getElem?_eq_some_iff.1 h2).1
                have hlt : off + i < xs.length := (List.getElem?_eq_some_iff.1 hrow).1
                have hj : s + (off + i) * sz' + j < vs.length := by
                  have := mul_lt (show off + i < n by omega) hj0; omega
                have hv : vs[s + (off + i) * sz' + j]? = some (vs.getD (s + (off + i) * sz' + j) undef) := by rw [List.getD_eq_getElem?_getD, List.getElem?_eq_getElem hj]; rfl
                refine ⟨?_, k8 (off + i) r j g _ hrow h2 hv⟩
                rw [show s + off * sz' + i * sz' + j = s + (off + i) * sz' + j from by rw [Nat.add_mul]; omega, cell_of_block k3]
                exact hv)
              rw [hlen] at this ⊢
              exact this
    · exact h.elim
  · rename_i s
    obtain rfl := hx.str_inv
    refine ⟨_, h, by simp [Builtin.lenOf], fun hr => ?_⟩
    refine ⟨s.data.toList.map fun b => .int .u8 b.toNat, ?_, ?_, ?_, hr, ?_⟩
    · intro w2 _
      simp only [Builtin.firstCells, Sem.run_pure]
      congr 1
      apply Array.toList_inj.1
      have e : s.extract 0 (s.data.toList.map fun b => [G.int .u8 (b.toNat : Int)]).length = s := by
        have : (s.data.toList.map fun b => [G.int .u8 (b.toNat : Int)]).length = s.size := by simp
        rw [this]
        simp
      rw [e]; simp
    · rcases Nat.eq_zero_or_pos s.data.toList.length with e0 | hp
      · simp at e0; simp [e0]
      · have hb : [G.int .u8 ((s.data.toList[0]'hp).toNat : Int)] ∈ (s.data.toList.map fun b => [G.int .u8 (b.toNat : Int)]) := List.mem_map.2 ⟨_, List.getElem_mem hp, rfl⟩
        have := (hr _ hb).1
        simp at this
        subst this; simp
    · intro v hv
      obtain ⟨b, _, rfl⟩ := List.mem_map.1 hv
      rfl
    · intro i r j g v h1 h2 h3
      rw [List.getElem?_map] at h1
      obtain ⟨b, hb, rfl⟩ := Option.map_eq_some_iff.1 h1
      have hs1 := (hr _ (List.mem_map.2 ⟨b, List.mem_of_getElem? hb, rfl⟩)).1
      simp at hs1; subst hs1
      cases j with
      | zero =>
        simp only [List.getElem?_cons_zero, Option.some.injEq] at h2; subst h2
        simp only [Nat.mul_one, Nat.add_zero, List.getElem?_map, hb, Option.map_some, Option.some.injEq] at h3
        subst h3
        exact .int ..
      | succ j => simp at h2
  · exact h.elim

theorem Cols.append {sz : Nat} {xs ys : List (List G)} {us ws : List Value} (h1 : Cols C w sz xs us) (h2 : Cols C w sz ys ws) : Cols C w sz (xs ++ ys) (us ++ ws) := by
  refine ⟨by rw [List.length_append, List.length_append, h1.len, h2.len, Nat.add_mul], fun v hv => ?_, fun r hr => ?_, fun i r j g v hi hj hv => ?_⟩
  · rcases List.mem_append.1 hv with h | h
    · exact h1.one v h
    · exact h2.one v h
  · rcases List.mem_append.1 hr with h | h
    · exact h1.row r h
    · exact h2.row r h
  · by_cases hlt : i < xs.length
    · rw [List.getElem?_append_left hlt] at hi
      have hj0 : j < sz := by rw [← (h1.row r (List.mem_of_getElem? hi)).1]; exact (List.getElem?_eq_some_iff.1 hj).1
      rw [List.getElem?_append_left (by rw [h1.len]; exact mul_lt hlt hj0)] at hv
      exact h1.rep i r j g v hi hj hv
    · rw [List.getElem?_append_right (by omega)] at hi
      have e : i * sz = us.length + (i - xs.length) * sz := by rw [h1.len, ← Nat.add_mul]; congr 1; omega
      rw [List.getElem?_append_right (by omega), show i * sz + j - us.length = (i - xs.length) * sz + j from by omega] at hv
      exact h2.rep _ r j g v hi hj hv
theorem Cols.keep0 {C' : Cx} {w' : World} {sz : Nat} {xs : List (List G)} {us : List Value} (h : Cols C w sz xs us) (hk : Keeps C.ex w w') (hx : ∀ B, B < w.heap.size → ¬ C.ex B → ¬ C'.ex B) : Cols C' w' sz xs us :=
  ⟨h.len, h.one, h.row, fun i r j g v a1 a2 a3 => (h.rep i r j g v a1 a2 a3).keep0 ((h.row r (List.mem_of_getElem? a1)).2 g (List.mem_of_getElem? a2)) hk hx⟩

theorem run_choose_cap (need old : Nat) (e : TypeId) : ∃ c, (choose (.appendCap need old e)).run P w = .ok c w.drew ∧ need ≤ c := by
  refine ⟨(Question.appendCap need old e).cut (w.tape w.drawn (.appendCap need old e)), ?_, by simp [Question.cut]⟩
  rw [run_choose]; rfl

theorem grow_le (need : Nat) : ∀ (r c : Nat), c ≤ need → Builtin.growBy need r c ≤ 2 * need + 1024
  | 0, c, h => by unfold Builtin.growBy; omega
  | r + 1, c, h => by
    unfold Builtin.growBy
    split
    · omega
    · by_cases h2 : c + (c + 768) / 4 ≤ need
      · exact grow_le need r _ h2
      · have : Builtin.growBy need r (c + (c + 768) / 4) = c + (c + 768) / 4 := by
          cases r with
          | zero => rfl
          | succ r => unfold Builtin.growBy; rw [if_pos (by omega)]
        rw [this]; omega
theorem nextcap_le {need cap : Nat} (h : cap < need) : Builtin.nextslicecap need cap ≤ 2 * need + 1024 := by
  unfold Builtin.nextslicecap
  split
  · omega
  · split
    · omega
    · exact grow_le need 4 cap (by omega)

theorem zeros_len (z : Array Value) (n : Nat) : (Builtin.zeroCells z n).toList.length = n * z.size := by simp [Builtin.zeroCells]
theorem zeros_one {z : Array Value} (hz : ∀ v ∈ z.toList, v.oneCell' = true) (hp : 0 < z.size) (n : Nat) : ∀ v ∈ (Builtin.zeroCells z n).toList, v.oneCell' = true := fun v hv => by
  simp only [Builtin.zeroCells, Array.toList_map, List.mem_map] at hv
  obtain ⟨i, _, rfl⟩ := hv
  have hlt : i % z.size < z.size := Nat.mod_lt _ hp
  rw [getElem!_pos z _ hlt]
  exact hz _ (by simp)

/-- The model's append, where what is appended is a slice or a string. -/
def appCore (e : TypeId) (base : Option Addr) (len cap size n : Nat) (x : Value) : Sem Value := do
  if len + n ≤ cap then
    let new ← Builtin.firstCells size n x
    if let some a := base then storeCells (a.add (len * size)) new.toList
    pure (.slice base (len + n) cap)
  else
    if Builtin.nextslicecap (len + n) cap * (← typeInfo e).bytes > 2 ^ 48 then unsupported (.resourceLimit "") else
    let newCap ← choose (.appendCap (len + n) cap e)
    askRoom (newCap * (← typeInfo e).bytes)
    let old ← Builtin.firstCells size len (.slice base len cap)
    let new ← Builtin.firstCells size n x
    let rest := Builtin.zeroCells (← zeroValue e).cells (newCap - (len + n))
    pure (.slice (some (← newRow e (old ++ new ++ rest))) (len + n) newCap)
theorem append_core {tS tX e : TypeId} {dX : TypeDesc} {argTypes : Array TypeId} {ty : TypeId} (ht0 : argTypes[0]? = some tS) (ht1 : argTypes[1]? = some tX) (hu : P.underlying tS = some (.slice e)) (hX : P.underlying tX = some dX) (hd : isInt dX = false)
    (hp : 0 < P.cellsOf e) (hb : 0 < P.bytesOf e) {base : Option Addr} {len cap n : Nat} {x : Value} (hn : (Builtin.lenOf x).run P w = .ok n w) (hfit : fitsB P e (len + n)) :
    (Builtin.append_ argTypes ty #[.slice base len cap, x]).run P w = (appCore e base len cap (P.cellsOf e) n x).run P w := by
  obtain ⟨ii, hii⟩ : ∃ ii, P.info? e = some ii := by
    unfold Program.cellsOf at hp
    cases hq : P.info? e with
    | none => rw [hq] at hp; simp at hp
    | some i => exact ⟨i, rfl⟩
  have hbe : ii.bytes = P.bytesOf e := by unfold Program.bytesOf; rw [hii]; rfl
  have a0 : (#[Value.slice base len cap, x])[0]? = some (.slice base len cap) := rfl
  have a1 : (#[Value.slice base len cap, x])[1]? = some x := rfl
  have hneed : len + n ≤ 281474976710656 := by
    unfold fitsB at hfit
    have hb1 : 1 ≤ P.bytesOf e := hb
    have : (2 * (len + n) + 1024) * 1 ≤ (2 * (len + n) + 1024) * P.bytesOf e := Nat.mul_le_mul_left _ hb1
    omega
  unfold Builtin.append_ appCore
  simp only [ht0, ht1, a0, a1, Sem.run_bind, run_underlying hu, Result.andThen_ok, Go.run_sizeOf _ hii, run_underlying hX, Sem.run_pure]
  cases dX <;> first
    | (simp [isInt] at hd; done)
    | (simp only [Bool.false_eq_true, if_false, Bool.not_false, if_true, hn, Sem.run_bind, Sem.run_ite, Sem.run_pure, Result.andThen_ok, run_typeInfo _ hii, false_or]
       split
       · rfl
       · rename_i hroom
         by_cases hcap : Builtin.nextslicecap (len + n) cap * ii.bytes > 2 ^ 48
         · exfalso
           have h1 := nextcap_le (show cap < len + n by omega)
           rw [hbe] at hcap
           have h2 := Nat.mul_le_mul_right (P.bytesOf e) h1
           unfold fitsB at hfit
           omega
         · rw [if_neg (by rw [hbe]; simp [IntKind.max, IntKind.signed, IntKind.bits]; omega)]
           rw [if_neg hcap, if_neg hcap])

/-- Appending where there is no room: a new block. -/
theorem run_core_grow {e : TypeId} {z : Value} (hz : (zeroValue e).run P w.drew = .ok z w.drew) (hzl : z.cells.size = P.cellsOf e) (hp : 0 < P.cellsOf e) (hz1 : ∀ v ∈ z.cells.toList, v.oneCell' = true)
    {base : Option Addr} {len cap n : Nat} {x : Value} {us ws : List Value} (hlt : cap < len + n) (hfit : fitsB P e (len + n))
    (hold : (Builtin.firstCells (P.cellsOf e) len (.slice base len cap)).run P w.drew = .ok ⟨us⟩ w.drew) (hnew : (Builtin.firstCells (P.cellsOf e) n x).run P w.drew = .ok ⟨ws⟩ w.drew) :
    ∃ c rest, len + n ≤ c ∧ (appCore e base len cap (P.cellsOf e) n x).run P w = .ok (.slice (some ⟨w.heap.size, 0, none⟩) (len + n) c) (w.drew.alloc (.cells ⟨us ++ ws ++ rest⟩ e)) ∧ rest.length = (c - (len + n)) * P.cellsOf e ∧ ∀ v ∈ rest, v.oneCell' = true := by
  obtain ⟨c, hc, hcle⟩ := run_choose_cap (P := P) (w := w) (len + n) cap e
  refine ⟨c, (Builtin.zeroCells z.cells (c - (len + n))).toList, hcle, ?_, by rw [zeros_len, hzl], zeros_one hz1 (by rw [hzl]; exact hp) _⟩
  obtain ⟨ii, hii⟩ : ∃ ii, P.info? e = some ii := by
    unfold Program.cellsOf at hp
    cases hq : P.info? e with
    | none => rw [hq] at hp; simp at hp
    | some i => exact ⟨i, rfl⟩
  have hbe : ii.bytes = P.bytesOf e := by unfold Program.bytesOf; rw [hii]; rfl
  have hcap : ¬ (Builtin.nextslicecap (len + n) cap * ii.bytes > 2 ^ 48) := by
    have h1 := nextcap_le hlt
    rw [hbe]
    have h2 := Nat.mul_le_mul_right (P.bytesOf e) h1
    unfold fitsB at hfit
    omega
  unfold appCore
  rw [if_neg (by omega)]
  simp only [Sem.run_bind, run_typeInfo _ hii, Result.andThen_ok, Sem.run_ite]
  rw [if_neg hcap, hc]
  simp only [Result.andThen_ok, Sem.run_bind, run_typeInfo _ hii, run_askRoom, hold, hnew, hz, Sem.run_pure, newRow, run_newObj]
  have e1 : ((⟨us⟩ : Array Value) ++ ⟨ws⟩ ++ Builtin.zeroCells z.cells (c - (len + n))) = ⟨us ++ ws ++ (Builtin.zeroCells z.cells (c - (len + n))).toList⟩ := by
    apply Array.toList_inj.1; simp
  rw [e1]
  rfl
/-- Appending where there is room. -/
theorem run_core_room {e : TypeId} {B o : Nat} {T : TypeId} {fz : Nat × Nat} {vs : List Value} (hB : w.heap[B]? = some (.cells ⟨vs⟩ T fz)) (hf : ∀ p, p < vs.length → ¬ (fz.1 ≤ p ∧ p < fz.2))
    {len cap n sz : Nat} {x : Value} {ws : List Value} (hle : len + n ≤ cap) (hnew : (Builtin.firstCells sz n x).run P w = .ok ⟨ws⟩ w) (h1 : ∀ v ∈ ws, v.oneCell' = true) (hlen : o + len * sz + ws.length ≤ vs.length) :
    ∃ w', (appCore e (some ⟨B, o, none⟩) len cap sz n x).run P w = .ok (.slice (some ⟨B, o, none⟩) (len + n) cap) w' ∧ Only w w' B (blit vs (o + len * sz) ws) T fz := by
  obtain ⟨w', hr, ho⟩ := run_storeCells_on (P := P) B (o + len * sz) T fz ws 0 vs w hB (by omega) h1 hf
  refine ⟨w', ?_, by simpa using ho⟩
  unfold appCore
  rw [if_pos hle]
  simp only [Sem.run_bind, hnew, Result.andThen_ok, addr_add]
  rw [hr]
  rfl

theorem okCells {e : TypeId} {cs : List G} (h : zeroCells P e = some cs) (hp : 0 < P.cellsOf e) (w : World) : ∃ z : Value, (zeroValue e).run P w = .ok z w ∧ z.cells.size = P.cellsOf e ∧ ∀ v ∈ z.cells.toList, v.oneCell' = true := by
  obtain ⟨z, h1, h2, h3, h4, _⟩ := zeroCells_sound h w
  exact ⟨z, h1, by rw [← Array.length_toList, h2, h3], h4⟩

/-- The new block of an append is laid as row k. -/
theorem Inv.newRow {k : Nat} (h : Inv C F st a w) (hk : C.row k = none) (hlt : k < st.rows.length) {sz n : Nat} {vs : List Value} {T : TypeId} {fz : Nat × Nat} {xs : List (List G)} (hn : n * sz ≤ vs.length) (hx : 0 < xs.length ∧ xs.length ≤ n) (h1 : ∀ v ∈ vs, v.oneCell' = true)
    (hf : ∀ o, o < vs.length → ¬ (fz.1 ≤ o ∧ o < fz.2)) (hc : ∀ r ∈ xs, r.length = sz ∧ ∀ g ∈ r, g.closed0 = true) (hR : ∀ (i : Nat) r (j : Nat) g v, xs[i]? = some r → r[j]? = some g → vs[i * sz + j]? = some v → Rep C w g v) :
    ∃ C', Inv C' F (st.setRow k xs) a (w.alloc (.cells ⟨vs⟩ T fz)) ∧ C'.row k = some (some (w.heap.size, 0, sz, n)) := by
  have h2 := h.own_alloc (.cells ⟨vs⟩ T fz)
  have hb : ∀ b B, C.box b = some B → B < w.heap.size := fun b B hb => h.mem.lt _ (h.mem.ltB hb)
  have hr : ∀ k B s sz n, C.row k = some (some (B, s, sz, n)) → B < w.heap.size := fun k B s sz n hk => h.mem.lt _ (h.mem.ltR hk)
  obtain ⟨C', h3, h4, _⟩ := h2.addRow (k := k) (B := w.heap.size) (s := 0) (sz := sz) (n := n) (vs := vs) (T := T) (fz := fz) (xs := xs) hk hlt (.inr rfl) (.inr h.fr.size) (fun b e => absurd (hb b _ e) (by omega)) (fun k s z n e => absurd (hr k _ s z n e) (by omega))
    (heap_alloc_new w _) (by omega) hx hf h1 hc (fun i r j g v a1 a2 a3 => by
      rw [Nat.zero_add] at a3
      exact (hR i r j g v a1 a2 a3).keep0 ((hc r (List.mem_of_getElem? a1)).2 g (List.mem_of_getElem? a2)) (keeps_alloc _ w _) (fun B hB hn => by rintro (h | h); exact hn h; omega))
  exact ⟨C', h3, h4⟩

theorem Cols.drew {sz : Nat} {xs : List (List G)} {us : List Value} (h : Cols C w sz xs us) : Cols C w.drew sz xs us := h.keep0 ⟨Nat.le_refl _, fun _ _ _ => rfl, fun _ vs _ fz h => ⟨vs, fz, h, rfl⟩⟩ (fun _ _ h => h)

theorem app_sound {d : Nat} {s x : G} {tS tX : TypeId} {k : G → St → Prop} (h : appP P d s x tS tX st k) (hi : Inv C F st a w) {u v : Value} (hs : Rep C w s u) (hx : Rep C w x v) {argTypes : Array TypeId} {ty : TypeId}
    (ht0 : argTypes[0]? = some tS) (ht1 : argTypes[1]? = some tX) : ∃ z w', (Builtin.append_ argTypes ty #[u, v]).run P w = .ok z w' ∧ After F k a z w' := by
  unfold appP at h
  split at h
  · rename_i e dX hu hX
    cases hq : isInt dX || (P.bytesOf e == 0) || (zeroCells P e).isNone || (P.cellsOf e == 0) || !(Nat.blt d st.rows.length) with
    | true => rw [hq] at h; exact h.elim
    | false =>
      rw [hq] at h
      simp only [Bool.or_eq_false_iff, beq_eq_false_iff_ne, Bool.not_eq_false'] at hq
      obtain ⟨⟨⟨⟨q1, q2⟩, q3⟩, q4⟩, q5⟩ := hq
      have q5 : d < st.rows.length := Nat.le_of_ble_eq_true q5
      have hp : 0 < P.cellsOf e := Nat.pos_of_ne_zero q4
      have hb : 0 < P.bytesOf e := Nat.pos_of_ne_zero q2
      obtain ⟨cs, hcs⟩ : ∃ cs, zeroCells P e = some cs := by cases hz : zeroCells P e <;> simp_all
      simp only [cond_false] at h
      obtain ⟨ys, h, hlen, hread⟩ := src_sound h hi hx hp
      cases hok : okRows (P.cellsOf e) ys with
      | false => rw [hok] at h; exact h.elim
      | true =>
        rw [hok] at h
        have hrows := okRows_iff hok
        obtain ⟨ws, hws, hcw⟩ := hread hrows
        obtain ⟨z, hz, hzl, hz1⟩ := okCells hcs hp w.drew
        have onto : ∀ A, u = .slice A 0 0 → fitsB P e ys.length → ∃ z w' C2, (Builtin.append_ argTypes ty #[u, v]).run P w = .ok z w' ∧ Inv C2 F ((st.freeRow d).setRow d ys) a w' ∧ Rep C2 w' (.own d 0 ys.length) z ∧ (A = none → P.cellsOf e = 1 → Rep C2 w' (.ownt d ys.length e) z) := fun A0 hu0 hfit => by
            subst hu0
            rw [append_core ht0 ht1 hu hX q1 hp hb hlen (by rw [Nat.zero_add]; exact hfit)]
            obtain ⟨C1, hI1, hk1, hbx, hex, hrw, _⟩ := hi.freeRow d
            rcases Nat.eq_zero_or_pos ys.length with e0 | hpos
            · obtain rfl : ys = [] := List.length_eq_zero_iff.1 e0
              obtain ⟨C2, hI2, hk2, _⟩ := hI1.addNil hk1 (by rw [freeRow_len]; exact q5)
              refine ⟨.slice A0 0 0, w, C2, ?_, hI2, .ownnil d A0 hk2, fun e0 _ => by rw [e0]; exact .owntnil d e hk2⟩
              unfold appCore
              rw [if_pos (by simp)]
              simp only [Sem.run_bind]
              rw [show (Builtin.firstCells (P.cellsOf e) ([] : List (List G)).length v).run P w = .ok ⟨ws⟩ w from hws w rfl]
              obtain rfl : ws = [] := List.length_eq_zero_iff.1 (by rw [hcw.len]; simp)
              cases A0 <;> simp [storeCells]
            · obtain ⟨c, rest, hc1, hc2, hc3, hc4⟩ := run_core_grow (P := P) (w := w) hz hzl hp hz1 (base := A0) (len := 0) (cap := 0) (n := ys.length) (x := v) (us := []) (ws := ws) (by omega) (by rw [Nat.zero_add]; exact hfit) (by cases A0 <;> simp [Builtin.firstCells, loadCells, loadCellsFrom]) (hws w.drew rfl)
              rw [Nat.zero_add] at hc1 hc3
              have hlw := hcw.len
              obtain ⟨C2, hI2, hk2⟩ := (hI1.drew).newRow (k := d) hk1 (by rw [freeRow_len]; exact q5) (sz := P.cellsOf e) (n := c) (vs := [] ++ ws ++ rest) (T := e) (fz := (0, 0)) (xs := ys)
                (by simp only [List.nil_append, List.length_append, hlw, hc3, ← Nat.add_mul]; exact Nat.mul_le_mul_right _ (by omega)) ⟨by omega, hc1⟩
                (fun q hq => by
                  rcases List.mem_append.1 hq with hq | hq
                  · exact hcw.one q (by simpa using hq)
                  · exact hc4 q hq) (fun o ho => by simp) hrows
                (fun i r j g q a1 a2 a3 => by
                  have hj0 : j < P.cellsOf e := by rw [← (hrows r (List.mem_of_getElem? a1)).1]; exact (List.getElem?_eq_some_iff.1 a2).1
                  have hi0 : i < ys.length := (List.getElem?_eq_some_iff.1 a1).1
                  rw [List.nil_append, List.getElem?_append_left (by rw [hlw]; exact mul_lt hi0 hj0)] at a3
                  exact (hcw.rep i r j g q a1 a2 a3).keep0 ((hrows r (List.mem_of_getElem? a1)).2 g (List.mem_of_getElem? a2)) ⟨Nat.le_refl _, fun _ _ _ => rfl, fun _ vs _ fz h => ⟨vs, fz, h, rfl⟩⟩ (fun B _ hn => by rw [hex]; exact hn))
              refine ⟨_, _, C2, hc2, hI2, ?_, fun _ h1 => ?_⟩
              · have := Rep.own (C := C2) (w := w.drew.alloc (.cells ⟨[] ++ ws ++ rest⟩ e)) d 0 ys.length _ 0 (P.cellsOf e) c ⟨w.drew.heap.size, 0, none⟩ hk2 (by omega) ⟨fun _ => by simp, rfl, rfl⟩ (by omega)
                simpa using this
              · rw [h1] at hk2
                have := Rep.ownt (C := C2) (w := w.drew.alloc (.cells ⟨[] ++ ws ++ rest⟩ e)) d ys.length e _ c _ (0, 0) hk2 hc1 (heap_alloc_new w.drew _)
                simpa using this
        have onRow : ∀ (kk off len : Nat) (xs : List (List G)), st.rows.getD kk none = some xs → (off + len ≤ xs.length ∧ (0 < len + ys.length ∨ xs = []) ∧ fitsB P e (len + ys.length) ∧ ∀ r ∈ xs, r.length = P.cellsOf e) → Rep C w (.own kk off len) u →
            ∃ z w' C2, (Builtin.append_ argTypes ty #[u, v]).run P w = .ok z w' ∧ Inv C2 F ((st.killR kk).setRow kk ((xs.drop off).take len ++ ys)) a w' ∧ Rep C2 w' (.own kk 0 (len + ys.length)) z ∧
              (off = 0 → P.cellsOf e = 1 → ((u = .slice none 0 0 ∧ C.row kk = some none) ∨ ∃ (B n : Nat) (vs : Array Value) (fz : Nat × Nat), C.row kk = some (some (B, 0, 1, n)) ∧ w.heap[B]? = some (.cells vs e fz)) → Rep C2 w' (.ownt kk (len + ys.length) e) z) := fun kk off len xs hxs ⟨hle, hpos, hfit, hxr⟩ hs => by
            have hkl : kk < st.rows.length := (List.getElem?_eq_some_iff.1 (rowsOf hxs)).1
            have hold : ((xs.drop off).take len).length = len := by simp; omega
            have hkill := hi.killR kk
            have hkn : (C.noR kk).row kk = none := by show (if kk = kk then none else _) = _; rw [if_pos rfl]
            have hkl' : kk < (st.killR kk).rows.length := by simpa [St.killR] using hkl
            rcases hi.mem.row2 (rowsOf hxs) hs.own_nm with ⟨k1, rfl⟩ | ⟨B, s0, sz, n, vs, T, fz, k1, k2, k3, k4, k5, k6, k6b, k7, k8⟩
            · -- the row is nil
              simp only [List.length_nil] at hle
              obtain rfl : off = 0 := by omega
              obtain rfl : len = 0 := by omega
              cases hs with
              | own _ _ _ _ _ _ _ _ hr => rw [k1] at hr; cases hr
              | ownnil _ A0 hr =>
                rw [append_core ht0 ht1 hu hX q1 hp hb hlen hfit]
                rcases Nat.eq_zero_or_pos ys.length with e0 | hpos
                · obtain rfl : ys = [] := List.length_eq_zero_iff.1 e0
                  obtain ⟨C2, hI2, hk2, _⟩ := hkill.addNil hkn hkl'
                  refine ⟨.slice A0 0 0, w, C2, ?_, by simpa using hI2, .ownnil kk A0 hk2, fun _ _ ht => by
                    rcases ht with ⟨e1, _⟩ | ⟨B, n, vs, fz, e1, _⟩
                    · cases e1; exact .owntnil kk e hk2
                    · rw [k1] at e1; cases e1⟩
                  unfold appCore
                  rw [if_pos (by simp)]
                  simp only [Sem.run_bind]
                  rw [show (Builtin.firstCells (P.cellsOf e) ([] : List (List G)).length v).run P w = .ok ⟨ws⟩ w from hws w rfl]
                  obtain rfl : ws = [] := List.length_eq_zero_iff.1 (by rw [hcw.len]; simp)
                  cases A0 <;> simp [storeCells]
                · obtain ⟨c, rest, hc1, hc2, hc3, hc4⟩ := run_core_grow (P := P) (w := w) hz hzl hp hz1 (base := A0) (len := 0) (cap := 0) (n := ys.length) (x := v) (us := []) (ws := ws) (by omega) hfit (by cases A0 <;> simp [Builtin.firstCells, loadCells, loadCellsFrom]) (hws w.drew rfl)
                  rw [Nat.zero_add] at hc1 hc3
                  have hlw := hcw.len
                  obtain ⟨C2, hI2, hk2⟩ := (hkill.drew).newRow (k := kk) hkn hkl' (sz := P.cellsOf e) (n := c) (vs := [] ++ ws ++ rest) (T := e) (fz := (0, 0)) (xs := ys)
                    (by simp only [List.nil_append, List.length_append, hlw, hc3, ← Nat.add_mul]; exact Nat.mul_le_mul_right _ (by omega)) ⟨by omega, hc1⟩
                    (fun q hq => by
                      rcases List.mem_append.1 hq with hq | hq
                      · exact hcw.one q (by simpa using hq)
                      · exact hc4 q hq) (fun o ho => by simp) hrows
                    (fun i r j g q a1 a2 a3 => by
                      have hj0 : j < P.cellsOf e := by rw [← (hrows r (List.mem_of_getElem? a1)).1]; exact (List.getElem?_eq_some_iff.1 a2).1
                      have hi0 : i < ys.length := (List.getElem?_eq_some_iff.1 a1).1
                      rw [List.nil_append, List.getElem?_append_left (by rw [hlw]; exact mul_lt hi0 hj0)] at a3
                      exact (hcw.rep i r j g q a1 a2 a3).keep0 ((hrows r (List.mem_of_getElem? a1)).2 g (List.mem_of_getElem? a2)) ⟨Nat.le_refl _, fun _ _ _ => rfl, fun _ vs _ fz h => ⟨vs, fz, h, rfl⟩⟩ (fun B _ hn => hn))
                  refine ⟨_, _, C2, hc2, hI2, ?_, fun _ h1 _ => ?_⟩
                  · have := Rep.own (C := C2) (w := w.drew.alloc (.cells ⟨[] ++ ws ++ rest⟩ e)) kk 0 (0 + ys.length) _ 0 (P.cellsOf e) c ⟨w.drew.heap.size, 0, none⟩ hk2 (by omega) ⟨fun _ => by simp, rfl, rfl⟩ (by omega)
                    simpa using this
                  · rw [h1] at hk2
                    have := Rep.ownt (C := C2) (w := w.drew.alloc (.cells ⟨[] ++ ws ++ rest⟩ e)) kk (0 + ys.length) e _ c _ (0, 0) hk2 (by omega) (heap_alloc_new w.drew _)
                    simpa using this
            · cases hs with
              | ownnil _ A0 hr => rw [k1] at hr; cases hr
              | own _ _ _ _ _ _ _ A hr ho hA hnz =>
                rw [k1] at hr; cases hr
                have hpos : 0 < len + ys.length := hpos.resolve_right (fun e => by rw [e] at k5; exact absurd k5.1 (by simp))
                rw [append_core ht0 ht1 hu hX q1 hp hb hlen hfit]
                have hx0 : xs[0]? = some (xs[0]'(by omega)) := List.getElem?_eq_getElem (by omega)
                have hsz : sz = P.cellsOf e := by rw [← (k7 _ (List.mem_of_getElem? hx0)).1]; exact hxr _ (List.mem_of_getElem? hx0)
                subst hsz
                have hlw := hcw.len
                have hget : ∀ (i : Nat) r, ((xs.drop off).take len)[i]? = some r → xs[off + i]? = some r := fun i r hir => by
                  rw [List.getElem?_take] at hir
                  split at hir
                  · rwa [List.getElem?_drop] at hir
                  · cases hir
                have hallrows : ∀ r ∈ (xs.drop off).take len ++ ys, r.length = P.cellsOf e ∧ ∀ g ∈ r, g.closed0 = true := fun r hr => by
                  rcases List.mem_append.1 hr with hr | hr
                  · exact k7 r (List.mem_of_mem_drop (List.mem_of_mem_take hr))
                  · exact hrows r hr
                have hBt := hi.tr kk B s0 (P.cellsOf e) n k1
                have hnb : ∀ b, (C.noR kk).box b ≠ some B := fun b e => hi.mem.br b kk B _ _ _ e k1
                have hnr : ∀ k' s z n', (C.noR kk).row k' ≠ some (some (B, s, z, n')) := fun k' s z n' e => by
                  have e' : (if k' = kk then none else C.row k') = some (some (B, s, z, n')) := e
                  split at e'
                  · cases e'
                  · rename_i hne; exact hne (hi.mem.rr k' kk B s z n' _ _ _ e' k1)
                by_cases hroom : len + ys.length ≤ n - off
                · -- there is room
                  rcases Nat.eq_zero_or_pos (n - off) with hz0 | hn0
                  · omega
                  · obtain rfl := hA.1 (by omega)
                    have hspace : s0 + off * P.cellsOf e + len * P.cellsOf e + ws.length ≤ vs.length := by
                      have : (off + len + ys.length) * P.cellsOf e ≤ n * P.cellsOf e := Nat.mul_le_mul_right _ (by omega)
                      rw [Nat.add_mul, Nat.add_mul] at this
                      omega
                    obtain ⟨w', hrun, hon⟩ := run_core_room (P := P) (e := e) (o := s0 + off * P.cellsOf e) k3 k6 hroom (hws w rfl) hcw.one hspace
                    have hI2 := hkill.only hon k2 hBt hnb hnr
                    obtain ⟨C3, hI3, hk3, _⟩ := hI2.addRow (k := kk) (B := B) (s := s0 + off * P.cellsOf e) (sz := P.cellsOf e) (n := n - off) (xs := (xs.drop off).take len ++ ys) hkn hkl' k2 hBt hnb hnr hon.here
                      (by
                        rw [blit_length]
                        have : off * P.cellsOf e + (n - off) * P.cellsOf e = n * P.cellsOf e := by rw [← Nat.add_mul]; congr 1; omega
                        omega)
                      (by rw [List.length_append, hold]; omega) (fun o ho => k6 o (by rwa [blit_length] at ho))
                      (fun q hq => by
                        obtain ⟨j, hj⟩ := List.mem_iff_getElem?.1 hq
                        rw [blit_get _ _ _ _ hspace] at hj
                        split at hj
                        · exact hcw.one q (List.mem_of_getElem? hj)
                        · exact k6b q (List.mem_of_getElem? hj)) hallrows
                      (fun i r j g q a1 a2 a3 => by
                        have hcl := (hallrows r (List.mem_of_getElem? a1)).2 g (List.mem_of_getElem? a2)
                        have hj0 : j < P.cellsOf e := by rw [← (hallrows r (List.mem_of_getElem? a1)).1]; exact (List.getElem?_eq_some_iff.1 a2).1
                        refine Rep.keep0 (C := C) (w := w) ?_ hcl (hon.keeps k2) (fun _ _ h => h)
                        rw [blit_get _ _ _ _ hspace] at a3
                        by_cases hil : i < len
                        · rw [List.getElem?_append_left (by rw [hold]; exact hil)] at a1
                          have hm := mul_lt hil hj0
                          rw [if_neg (by omega)] at a3
                          have e2 : s0 + off * P.cellsOf e + i * P.cellsOf e + j = s0 + (off + i) * P.cellsOf e + j := by rw [Nat.add_mul]; omega
                          rw [e2] at a3
                          exact k8 (off + i) r j g q (hget i r a1) a2 a3
                        · rw [List.getElem?_append_right (by rw [hold]; omega), hold] at a1
                          have hi0 : i - len < ys.length := (List.getElem?_eq_some_iff.1 a1).1
                          have hm := mul_lt hi0 hj0
                          have e2 : i * P.cellsOf e = len * P.cellsOf e + (i - len) * P.cellsOf e := by rw [← Nat.add_mul]; congr 1; omega
                          rw [if_pos (by omega), show s0 + off * P.cellsOf e + i * P.cellsOf e + j - (s0 + off * P.cellsOf e + len * P.cellsOf e) = (i - len) * P.cellsOf e + j from by omega] at a3
                          exact hcw.rep (i - len) r j g q a1 a2 a3)
                    refine ⟨_, w', C3, hrun, hI3, ?_, fun h0 h1 ht => ?_⟩
                    · have := Rep.own (C := C3) (w := w') kk 0 (len + ys.length) B (s0 + off * P.cellsOf e) (P.cellsOf e) (n - off) ⟨B, s0 + off * P.cellsOf e, none⟩ hk3 (by omega) ⟨fun _ => by simp, rfl, rfl⟩ (by omega)
                      simpa using this
                    · rcases ht with ⟨_, e1⟩ | ⟨B1, n1, vs1, fz1, e1, e2⟩
                      · rw [k1] at e1; cases e1
                      · rw [k1] at e1
                        simp only [Option.some.injEq, Prod.mk.injEq] at e1
                        obtain ⟨rfl, rfl, _, rfl⟩ := e1
                        subst h0
                        obtain ⟨vs2, fz2, e3, _⟩ := hon.ty _ _ _ _ e2
                        rw [h1, Nat.zero_mul, Nat.add_zero, Nat.sub_zero] at hk3
                        have := Rep.ownt (C := C3) (w := w') kk (len + ys.length) e _ n vs2 fz2 hk3 (by omega) e3
                        simpa using this
                · -- there is none
                  obtain ⟨_, rfl, hlen2, hread2⟩ := src_sound (P := P) (st := st) (x := .own kk off len) (k := fun zs => zs = (xs.drop off).take len) (by simp only [srcP, hxs]; exact ⟨hle, trivial⟩) hi (Rep.own kk off len B s0 (P.cellsOf e) n A k1 ho hA hnz) hp
                  obtain ⟨us, hus, hcu⟩ := hread2 (fun r hr => hallrows r (List.mem_append_left _ hr))
                  rw [hold] at hus
                  obtain ⟨c, rest, hc1, hc2, hc3, hc4⟩ := run_core_grow (P := P) (w := w) hz hzl hp hz1 (base := some A) (len := len) (cap := n - off) (n := ys.length) (x := v) (us := us) (ws := ws) (by omega) hfit (hus w.drew rfl) (hws w.drew rfl)
                  have hcc := hcu.append hcw
                  have hlc : (us ++ ws).length = (len + ys.length) * P.cellsOf e := by rw [hcc.len, List.length_append, hold]
                  obtain ⟨C2, hI2, hk2⟩ := (hkill.drew).newRow (k := kk) hkn hkl' (sz := P.cellsOf e) (n := c) (vs := us ++ ws ++ rest) (T := e) (fz := (0, 0)) (xs := (xs.drop off).take len ++ ys)
                    (by rw [List.length_append (as := us ++ ws), hlc, hc3, ← Nat.add_mul]; exact Nat.mul_le_mul_right _ (by omega)) (by rw [List.length_append, hold]; omega)
                    (fun q hq => by
                      rcases List.mem_append.1 hq with hq | hq
                      · exact hcc.one q hq
                      · exact hc4 q hq) (fun o ho => by simp) hallrows
                    (fun i r j g q a1 a2 a3 => by
                      have hj0 : j < P.cellsOf e := by rw [← (hallrows r (List.mem_of_getElem? a1)).1]; exact (List.getElem?_eq_some_iff.1 a2).1
                      have hi0 : i < len + ys.length := by have := (List.getElem?_eq_some_iff.1 a1).1; rw [List.length_append, hold] at this; exact this
                      rw [List.getElem?_append_left (by rw [hlc]; exact mul_lt hi0 hj0)] at a3
                      exact (hcc.rep i r j g q a1 a2 a3).keep0 ((hallrows r (List.mem_of_getElem? a1)).2 g (List.mem_of_getElem? a2)) ⟨Nat.le_refl _, fun _ _ _ => rfl, fun _ vs _ fz h => ⟨vs, fz, h, rfl⟩⟩ (fun B _ hn => hn))
                  refine ⟨_, _, C2, hc2, hI2, ?_, fun _ h1 _ => ?_⟩
                  · have := Rep.own (C := C2) (w := w.drew.alloc (.cells ⟨us ++ ws ++ rest⟩ e)) kk 0 (len + ys.length) _ 0 (P.cellsOf e) c ⟨w.drew.heap.size, 0, none⟩ hk2 (by omega) ⟨fun _ => by simp, rfl, rfl⟩ (by omega)
                    simpa using this
                  · rw [h1] at hk2
                    have := Rep.ownt (C := C2) (w := w.drew.alloc (.cells ⟨us ++ ws ++ rest⟩ e)) kk (len + ys.length) e _ c _ (0, 0) hk2 hc1 (heap_alloc_new w.drew _)
                    simpa using this
        split at h
        · cases hs; obtain ⟨hfit, h⟩ := h; obtain ⟨z, w', C2, r1, r2, r3, _⟩ := onto _ rfl hfit; exact ⟨z, w', r1, C2, _, _, h, r2, r3⟩
        · cases hs; obtain ⟨hfit, h⟩ := h; obtain ⟨z, w', C2, r1, r2, r3, _⟩ := onto _ rfl hfit; exact ⟨z, w', r1, C2, _, _, h, r2, r3⟩
        · -- onto a row
          rename_i kk off len _
          split at h
          · rename_i xs hxs
            obtain ⟨hc, h⟩ := h
            obtain ⟨z, w', C2, r1, r2, r3, _⟩ := onRow kk off len xs hxs hc hs
            exact ⟨z, w', r1, C2, _, _, h, r2, r3⟩
          · exact h.elim
        · -- onto nothing, of a known type
          cases h1 : Nat.beq (P.cellsOf e) 1 with
          | false => rw [h1] at h; exact h.elim
          | true =>
            rw [h1] at h
            obtain ⟨hfit, h⟩ := h
            cases hs
            obtain ⟨z, w', C2, r1, r2, _, r3⟩ := onto _ rfl hfit
            exact ⟨z, w', r1, C2, _, _, h, r2, r3 rfl (Nat.eq_of_beq_eq_true h1)⟩
        · rename_i kk len T _
          cases h1 : Nat.beq T e && Nat.beq (P.cellsOf e) 1 with
          | false => rw [h1] at h; exact h.elim
          | true =>
            rw [h1] at h
            simp only [Bool.and_eq_true] at h1
            obtain rfl := Nat.eq_of_beq_eq_true h1.1
            have h2 := Nat.eq_of_beq_eq_true h1.2
            simp only [cond_true] at h
            split at h
            · rename_i xs hxs
              obtain ⟨hc, h⟩ := h
              have ho : Rep C w (.own kk 0 len) u ∧ ((u = .slice none 0 0 ∧ C.row kk = some none) ∨ ∃ (B n : Nat) (vs : Array Value) (fz : Nat × Nat), C.row kk = some (some (B, 0, 1, n)) ∧ w.heap[B]? = some (.cells vs T fz)) := by
                cases hs with
                | ownt _ _ _ B n vs fz hr ho ht =>
                  have hn0 : 0 < n := by
                    rcases hi.mem.row2 (rowsOf hxs) (fun km => km.nT hr ht) with ⟨q1, _⟩ | ⟨_, _, _, _, _, _, _, q1, _, _, _, q2, _⟩
                    · rw [hr] at q1; cases q1
                    · rw [hr] at q1; cases q1; omega
                  exact ⟨by have := Rep.own (C := C) (w := w) kk 0 len B 0 1 n ⟨B, 0, none⟩ hr (by omega) ⟨fun _ => by simp, rfl, rfl⟩ hn0; simpa using this, .inr ⟨B, n, vs, fz, hr, ht⟩⟩
                | owntnil _ _ hr => exact ⟨.ownnil kk none hr, .inl ⟨rfl, hr⟩⟩
              obtain ⟨z, w', C2, r1, r2, _, r3⟩ := onRow kk 0 len xs hxs hc ho.1
              exact ⟨z, w', r1, C2, _, _, h, r2, r3 rfl h2 ho.2⟩
            · exact h.elim
        · exact h.elim
  · exact h.elim
end
end Go.Proofs.YtcihkmnolagdlaaDoor.Av
