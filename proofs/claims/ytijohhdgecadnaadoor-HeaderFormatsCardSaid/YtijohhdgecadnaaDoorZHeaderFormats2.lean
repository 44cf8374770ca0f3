/- One text out of several: Av7b, Av8, Av8p, Av8r, Av8s, Av7c, Av7d. No condition but theirs. -/
import Derived.Tactics
import Derived.Laws.MakeOwn
import Derived.Laws.BytesArg
import Derived.Laws.IdiomStrings
import Derived.LaidEqlPtr
import Derived.Lib.Builder
import Derived.Lib.UnsafeStr
import Derived.Test.YtijohhdgecadnaaDoorZHeaderFormats1
namespace Go.Proofs.YtijohhdgecadnaaDoor.Av
open Go Go.RowKit
set_option linter.unusedVariables false
set_option linter.unusedSimpArgs false

/-- Cells one behind the other that read as rows. -/
structure Cols (C : Cx) (w : World) (sz : Nat) (ys : List (List G)) (ws : List Value) : Prop where
  len : ws.length = ys.length * sz
  one : ∀ v ∈ ws, v.oneCell' = true
  row : ∀ r ∈ ys, r.length = sz ∧ ∀ g ∈ r, g.closed0 = true
  rep : ∀ (i : Nat) r (j : Nat) g v, ys[i]? = some r → r[j]? = some g → ws[i * sz + j]? = some v → Rep C w g v

def okRows (n : Nat) (ys : List (List G)) : Bool := ys.all fun r => r.length == n && r.all G.closed0
def srcP (st : St) (x : G) (k : List (List G) → Prop) : Prop :=
  match x with
  | .nils => k []
  | .emp => k []
  | .ne => k []
  | .sl ys => k ys
  | .own kk off len => match st.rows.getD kk none with
    | some xs => off + len ≤ xs.length ∧ k ((xs.drop off).take len)
    | none => False
  | .ownf kk off len _ => match st.rows.getD kk none with
    | some xs => off + len ≤ xs.length ∧ k ((xs.drop off).take len)
    | none => False
  | .str s => k (s.data.toList.map fun b => [G.int .u8 b.toNat])
  | _ => False
def fitsB (P : Program) (e : TypeId) (n : Nat) : Prop := (5 * n + 4096) * P.bytesOf e ≤ 1125899906842624
def isInt : TypeDesc → Bool
  | .int _ => true
  | _ => false
/-- Rows p, .. of an own row are laid anew, one behind the other. -/
def blitR (xs : List (List G)) (p : Nat) (ys : List (List G)) : List (List G) := xs.take p ++ ys ++ xs.drop (p + ys.length)
def appP (P : Program) (d : Nat) (s x : G) (tS tX : TypeId) (st : St) (k : G → St → Prop) : Prop :=
  match P.underlying tS, P.underlying tX with
  | some (.slice e), some dX =>
    bif isInt dX || (P.bytesOf e == 0) || (zeroCells P e).isNone || (P.cellsOf e == 0) || !(Nat.blt d st.rows.length) then False else
    srcP st x fun ys => bif okRows (P.cellsOf e) ys then (match s with
      | .nils => fitsB P e ys.length ∧ k (.own d 0 ys.length) ((st.freeRow d).setRow d ys)
      | .emp => fitsB P e ys.length ∧ k (.own d 0 ys.length) ((st.freeRow d).setRow d ys)
      | .own kk off len => match st.rows.getD kk none with
        | some xs => (off + len ≤ xs.length ∧ (0 < len + ys.length ∨ xs = []) ∧ fitsB P e (len + ys.length) ∧ ∀ r ∈ xs, r.length = P.cellsOf e) ∧ k (.own kk 0 (len + ys.length)) ((st.killR kk).setRow kk ((xs.drop off).take len ++ ys))
        | none => False
      | .ownf kk off len N => match st.rows.getD kk none with
        | some xs => (off + len + ys.length ≤ xs.length ∧ off < xs.length ∧ fitsB P e (len + ys.length) ∧ ∀ r ∈ xs, r.length = P.cellsOf e) ∧ k (.ownf kk off (len + ys.length) N) (st.setRow kk (blitR xs (off + len) ys))
        | none => False
      | .nilt => bif Nat.beq (P.cellsOf e) 1 then fitsB P e ys.length ∧ k (.ownt d ys.length e) ((st.freeRow d).setRow d ys) else False
      | .ownt kk len T => bif Nat.beq T e && Nat.beq (P.cellsOf e) 1 then (match st.rows.getD kk none with
        | some xs => (0 + len ≤ xs.length ∧ (0 < len + ys.length ∨ xs = []) ∧ fitsB P e (len + ys.length) ∧ ∀ r ∈ xs, r.length = P.cellsOf e) ∧ k (.ownt kk (len + ys.length) e) ((st.killR kk).setRow kk ((xs.drop 0).take len ++ ys))
        | none => False) else False
      | _ => False) else False
  | _, _ => False

theorem okRows_iff {n : Nat} {ys : List (List G)} (h : okRows n ys = true) : ∀ r ∈ ys, r.length = n ∧ ∀ g ∈ r, g.closed0 = true := fun r hr => by
  have := List.all_eq_true.1 h r hr
  simp only [Bool.and_eq_true, beq_iff_eq, List.all_eq_true] at this
  exact this

section
variable {P : Program} {C : Cx} {F : Fd} {st : St} {a : Act} {w : World}

theorem mul_lt {i n j sz : Nat} (hi : i < n) (hj : j < sz) : i * sz + j < n * sz := by
  have : (i + 1) * sz ≤ n * sz := Nat.mul_le_mul_right _ hi
  rw [Nat.succ_mul] at this; omega

theorem src_sound0 {x : G} {k : List (List G) → Prop} (hnf : ∀ kk off len N, x ≠ .ownf kk off len N) (h : srcP st x k) (hi : Inv C F st a w) {v : Value} (hx : Rep C w x v) {sz : Nat} (hsz : 0 < sz) :
    ∃ ys, k ys ∧ (Builtin.lenOf v).run P w = .ok ys.length w ∧ ((∀ r ∈ ys, r.length = sz ∧ ∀ g ∈ r, g.closed0 = true) → ∃ ws, (∀ w2, w2.heap = w.heap → (Builtin.firstCells sz ys.length v).run P w2 = .ok ⟨ws⟩ w2) ∧ Cols C w sz ys ws) := by
  have list : ∀ (ys : List (List G)) (B o : Nat) (f : Nat → Nat → Value), (∀ r ∈ ys, r.length = sz ∧ ∀ g ∈ r, g.closed0 = true) →
      (∀ (i : Nat) r (j : Nat) g, ys[i]? = some r → r[j]? = some g → w.cell? ⟨B, o + i * sz + j, none⟩ = some (f i j) ∧ Rep C w g (f i j)) →
      ∃ ws, (∀ w2, w2.heap = w.heap → (loadCells ⟨B, o, none⟩ (ys.length * sz)).run P w2 = .ok ⟨ws⟩ w2) ∧ Cols C w sz ys ws := fun ys B o f hr hc => by
    let ws : List Value := (List.range (ys.length * sz)).map fun q => f (q / sz) (q % sz)
    have hget : ∀ q, q < ys.length * sz → ∃ r g, ys[q / sz]? = some r ∧ r[q % sz]? = some g := fun q hq => by
      have h1 : q / sz < ys.length := Nat.div_lt_of_lt_mul (by rw [Nat.mul_comm]; exact hq)
      have h2 : q % sz < sz := Nat.mod_lt _ hsz
      have h3 := (hr _ (List.getElem_mem h1)).1
      exact ⟨ys[q / sz], _, List.getElem?_eq_getElem h1, List.getElem?_eq_getElem (by rw [h3]; exact h2)⟩
    have hws : ∀ (q : Nat) v, ws[q]? = some v → q < ys.length * sz ∧ v = f (q / sz) (q % sz) := fun q v hq => by
      have hlt : q < ys.length * sz := by have := (List.getElem?_eq_some_iff.1 hq).1; simpa [ws] using this
      simp [ws, List.getElem?_map, List.getElem?_range hlt] at hq
      exact ⟨hlt, hq.symm⟩
    have hl : ws.length = ys.length * sz := by simp [ws]
    refine ⟨ws, ?_, hl, fun v hv => ?_, hr, fun i r j g v h1 h2 h3 => ?_⟩
    · intro w2 hw2
      rw [← hl]
      refine run_loadCells_list w2 _ ws fun q v hq => ?_
      have hcw : ∀ A, w2.cell? A = w.cell? A := fun A => by unfold World.cell?; rw [hw2]
      rw [hcw]
      obtain ⟨hlt, rfl⟩ := hws q v hq
      obtain ⟨r, g, g1, g2⟩ := hget q hlt
      rw [addr_add]
      have := (hc _ r _ g g1 g2).1
      rw [Nat.add_assoc, Nat.mul_comm (q / sz) sz, Nat.div_add_mod] at this
      exact this
    · obtain ⟨q, hq⟩ := List.mem_iff_getElem?.1 hv
      obtain ⟨hlt, rfl⟩ := hws q v hq
      obtain ⟨r, g, g1, g2⟩ := hget q hlt
      exact (hc _ r _ g g1 g2).2.oneCell (closed0_cell ((hr r (List.mem_of_getElem? g1)).2 g (List.mem_of_getElem? g2)))
    · have hj : j < sz := by rw [← (hr r (List.mem_of_getElem? h1)).1]; exact (List.getElem?_eq_some_iff.1 h2).1
      obtain ⟨_, rfl⟩ := hws _ v h3
      have e1 : (i * sz + j) / sz = i := by rw [Nat.mul_comm, Nat.mul_add_div hsz, Nat.div_eq_of_lt hj]; rfl
      have e2 : (i * sz + j) % sz = j := by rw [Nat.mul_comm, Nat.mul_add_mod, Nat.mod_eq_of_lt hj]
      rw [e1, e2]
      exact (hc i r j g h1 h2).2
  unfold srcP at h
  split at h
  · cases hx with
    | nils => exact ⟨[], h, rfl, fun _ => ⟨[], fun w2 _ => by simp [Builtin.firstCells], by simp, by simp, by simp, by simp⟩⟩
  · cases hx with
    | emp A => exact ⟨[], h, rfl, fun _ => ⟨[], fun w2 _ => by cases A <;> simp [Builtin.firstCells, loadCells, loadCellsFrom], by simp, by simp, by simp, by simp⟩⟩
  · cases hx with
    | ne a cap => exact ⟨[], h, rfl, fun _ => ⟨[], fun w2 _ => by simp [Builtin.firstCells, loadCells, loadCellsFrom], by simp, by simp, by simp, by simp⟩⟩
  · rename_i ys
    cases hx with
    | slnil A cap _ => exact ⟨[], h, rfl, fun _ => ⟨[], fun w2 _ => by cases A <;> simp [Builtin.firstCells, loadCells, loadCellsFrom], by simp, by simp, by simp, by simp⟩⟩
    | sl _ A cap sz' f ha hlt hex hcap hsz' hcl hcell hrep =>
      refine ⟨ys, h, rfl, fun hr => ?_⟩
      obtain ⟨ab, ao, asp⟩ := A
      simp only at ha; subst ha
      refine list ys ab ao f hr fun i r j g h1 h2 => ?_
      have e : sz' = sz := by rw [← hsz' r (List.mem_of_getElem? h1)]; exact (hr r (List.mem_of_getElem? h1)).1
      subst e
      exact ⟨hcell i r j g h1 h2, hrep i r j g h1 h2⟩
  · rename_i kk off len
    split at h
    · rename_i xs hxs
      obtain ⟨hle, h⟩ := h
      have hlen : ((xs.drop off).take len).length = len := by simp; omega
      refine ⟨_, h, ?_, fun hr => ?_⟩
      · cases hx <;> (rw [hlen]; rfl)
      · cases hx with
        | ownnil _ A hk => exact ⟨[], fun w2 _ => by cases A <;> simp [Builtin.firstCells, loadCells, loadCellsFrom], by simp, by simp, by simp, by simp⟩
        | own _ _ _ B s sz' n A hk ho hA hn0 =>
          rcases hi.mem.row2 (rowsOf hxs) (fun km => km.np hk hn0) with k1 | ⟨B', s', z', n', vs, T, fz, k1, k2, k3, k4, k5, k6, k6b, k7, k8⟩
          · rw [hk] at k1; cases k1.1
          · rw [hk] at k1; cases k1
            rcases Nat.eq_zero_or_pos len with e0 | hpos
            · subst e0
              obtain ⟨ab, ao, asp⟩ := A
              exact ⟨[], fun w2 _ => by simp [Builtin.firstCells, loadCells, loadCellsFrom], by simp, by simp, by simp, by simp⟩
            · obtain rfl := hA.1 (by omega)
              have hget : ∀ (i : Nat) r, ((xs.drop off).take len)[i]? = some r → xs[off + i]? = some r := fun i r hir => by
                rw [List.getElem?_take] at hir
                split at hir
                · rwa [List.getElem?_drop] at hir
                · cases hir
              have hx0 : ∃ r, r ∈ (xs.drop off).take len := ⟨((xs.drop off).take len)[0]'(by rw [hlen]; exact hpos), List.getElem_mem _⟩
              obtain ⟨r0, hr0⟩ := hx0
              have e : sz' = sz := by rw [← (hr r0 hr0).1]; exact ((k7 r0 (List.mem_of_mem_drop (List.mem_of_mem_take hr0))).1).symm
              subst e
              have := list _ B (s + off * sz') (fun i j => vs.getD (s + (off + i) * sz' + j) undef) hr (fun i r j g h1 h2 => by
                have hrow := hget i r h1
                have hj0 : j < sz' := by rw [← (hr r (List.mem_of_getElem? h1)).1]; exact (List.getElem?_eq_some_iff.1 h2).1
                have hlt : off + i < xs.length := (List.getElem?_eq_some_iff.1 hrow).1
                have hj : s + (off + i) * sz' + j < vs.length := by
                  have := mul_lt (show off + i < n by omega) hj0; omega
                have hv : vs[s + (off + i) * sz' + j]? = some (vs.getD (s + (off + i) * sz' + j) undef) := by rw [List.getD_eq_getElem?_getD, List.getElem?_eq_getElem hj]; rfl
                refine ⟨?_, k8 (off + i) r j g _ hrow h2 hv⟩
                rw [show s + off * sz' + i * sz' + j = s + (off + i) * sz' + j from by rw [Nat.add_mul]; omega, cell_of_block k3]
                exact hv)
              rw [hlen] at this ⊢
              exact this
    · exact h.elim
  · exact absurd rfl (hnf _ _ _ _)
  · rename_i s
    obtain rfl := hx.str_inv
    refine ⟨_, h, by simp [Builtin.lenOf], fun hr => ?_⟩
    refine ⟨s.data.toList.map fun b => .int .u8 b.toNat, ?_, ?_, ?_, hr, ?_⟩
    · intro w2 _
      simp only [Builtin.firstCells, Sem.run_pure]
      congr 1
      apply Array.toList_inj.1
      have e : s.extract 0 (s.data.toList.map fun b => [G.int .u8 (b.toNat : Int)]).length = s := by
        have : (s.data.toList.map fun b => [G.int .u8 (b.toNat : Int)]).length = s.size := by simp
        rw [this]
        simp
      rw [e]; simp
    · rcases Nat.eq_zero_or_pos s.data.toList.length with e0 | hp
      · simp at e0; simp [e0]
      · have hb : [G.int .u8 ((s.data.toList[0]'hp).toNat : Int)] ∈ (s.data.toList.map fun b => [G.int .u8 (b.toNat : Int)]) := List.mem_map.2 ⟨_, List.getElem_mem hp, rfl⟩
        have := (hr _ hb).1
        simp at this
        subst this; simp
    · intro v hv
      obtain ⟨b, _, rfl⟩ := List.mem_map.1 hv
      rfl
    · intro i r j g v h1 h2 h3
      rw [List.getElem?_map] at h1
      obtain ⟨b, hb, rfl⟩ := Option.map_eq_some_iff.1 h1
      have hs1 := (hr _ (List.mem_map.2 ⟨b, List.mem_of_getElem? hb, rfl⟩)).1
      simp at hs1; subst hs1
      cases j with
      | zero =>
        simp only [List.getElem?_cons_zero, Option.some.injEq] at h2; subst h2
        simp only [Nat.mul_one, Nat.add_zero, List.getElem?_map, hb, Option.map_some, Option.some.injEq] at h3
        subst h3
        exact .int ..
      | succ j => simp at h2
  · exact h.elim

theorem src_sound {x : G} {k : List (List G) → Prop} (h : srcP st x k) (hi : Inv C F st a w) {v : Value} (hx : Rep C w x v) {sz : Nat} (hsz : 0 < sz) :
    ∃ ys, k ys ∧ (Builtin.lenOf v).run P w = .ok ys.length w ∧ ((∀ r ∈ ys, r.length = sz ∧ ∀ g ∈ r, g.closed0 = true) → ∃ ws, (∀ w2, w2.heap = w.heap → (Builtin.firstCells sz ys.length v).run P w2 = .ok ⟨ws⟩ w2) ∧ Cols C w sz ys ws) := by
  by_cases hf : ∃ kk off len N, x = .ownf kk off len N
  · obtain ⟨kk, off, len, N, rfl⟩ := hf
    exact src_sound0 (x := .own kk off len) (fun _ _ _ _ e => by cases e) h hi hx.of_ownf hsz
  · exact src_sound0 (fun kk off len N e => hf ⟨kk, off, len, N, e⟩) h hi hx hsz

theorem Cols.append {sz : Nat} {xs ys : List (List G)} {us ws : List Value} (h1 : Cols C w sz xs us) (h2 : Cols C w sz ys ws) : Cols C w sz (xs ++ ys) (us ++ ws) := by
  refine ⟨by rw [List.length_append, List.length_append, h1.len, h2.len, Nat.add_mul], fun v hv => ?_, fun r hr => ?_, fun i r j g v hi hj hv => ?_⟩
  · rcases List.mem_append.1 hv with h | h
    · exact h1.one v h
    · exact h2.one v h
  · rcases List.mem_append.1 hr with h | h
    · exact h1.row r h
    · exact h2.row r h
  · by_cases hlt : i < xs.length
    · rw [List.getElem?_append_left hlt] at hi
      have hj0 : j < sz := by rw [← (h1.row r (List.mem_of_getElem? hi)).1]; exact (List.getElem?_eq_some_iff.1 hj).1
      rw [List.getElem?_append_left (by rw [h1.len]; exact mul_lt hlt hj0)] at hv
      exact h1.rep i r j g v hi hj hv
    · rw [List.getElem?_append_right (by omega)] at hi
      have e : i * sz = us.length + (i - xs.length) * sz := by rw [h1.len, ← Nat.add_mul]; congr 1; omega
      rw [List.getElem?_append_right (by omega), show i * sz + j - us.length = (i - xs.length) * sz + j from by omega] at hv
      exact h2.rep _ r j g v hi hj hv
theorem Cols.keep0 {C' : Cx} {w' : World} {sz : Nat} {xs : List (List G)} {us : List Value} (h : Cols C w sz xs us) (hk : Keeps C.ex w w') (hx : ∀ B, B < w.heap.size → ¬ C.ex B → ¬ C'.ex B) : Cols C' w' sz xs us :=
  ⟨h.len, h.one, h.row, fun i r j g v a1 a2 a3 => (h.rep i r j g v a1 a2 a3).keep0 ((h.row r (List.mem_of_getElem? a1)).2 g (List.mem_of_getElem? a2)) hk hx⟩

theorem run_choose_cap (need old : Nat) (e : TypeId) : ∃ c, (choose (.appendCap need old e)).run P w = .ok c w.drew ∧ need ≤ c := by
  refine ⟨(Question.appendCap need old e).cut (w.tape w.drawn (.appendCap need old e)), ?_, by simp [Question.cut]⟩
  rw [run_choose]; rfl

theorem grow_le (need : Nat) : ∀ (r c : Nat), c ≤ need → 4 * Builtin.growBy need r c ≤ 5 * need + 4096
  | 0, c, h => by unfold Builtin.growBy; omega
  | r + 1, c, h => by
    unfold Builtin.growBy
    split
    · omega
    · by_cases h2 : c + (c + 768) / 4 ≤ need
      · exact grow_le need r _ h2
      · have : Builtin.growBy need r (c + (c + 768) / 4) = c + (c + 768) / 4 := by
          cases r with
          | zero => rfl
          | succ r => unfold Builtin.growBy; rw [if_pos (by omega)]
        rw [this]; omega
theorem nextcap_le {need cap : Nat} (h : cap < need) : 4 * Builtin.nextslicecap need cap ≤ 5 * need + 4096 := by
  unfold Builtin.nextslicecap
  split
  · omega
  · split
    · omega
    · exact grow_le need 4 cap (by omega)
theorem nextcap_bytes {need cap b : Nat} (h : cap < need) (hf : (5 * need + 4096) * b ≤ 1125899906842624) : Builtin.nextslicecap need cap * b ≤ 281474976710656 := by
  have h1 := nextcap_le h
  have h2 := Nat.mul_le_mul_right b h1
  rw [Nat.mul_assoc] at h2
  omega

theorem zeros_len (z : Array Value) (n : Nat) : (Builtin.zeroCells z n).toList.length = n * z.size := by simp [Builtin.zeroCells]
theorem zeros_one {z : Array Value} (hz : ∀ v ∈ z.toList, v.oneCell' = true) (hp : 0 < z.size) (n : Nat) : ∀ v ∈ (Builtin.zeroCells z n).toList, v.oneCell' = true := fun v hv => by
  simp only [Builtin.zeroCells, Array.toList_map, List.mem_map] at hv
  obtain ⟨i, _, rfl⟩ := hv
  have hlt : i % z.size < z.size := Nat.mod_lt _ hp
  rw [getElem!_pos z _ hlt]
  exact hz _ (by simp)

/-- The model's append, where what is appended is a slice or a string. -/
def appCore (e : TypeId) (base : Option Addr) (len cap size n : Nat) (x : Value) : Sem Value := do
  if len + n ≤ cap then
    let new ← Builtin.firstCells size n x
    if let some a := base then storeCells (a.add (len * size)) new.toList
    pure (.slice base (len + n) cap)
  else
    if Builtin.nextslicecap (len + n) cap * (← typeInfo e).bytes > 2 ^ 48 then unsupported (.resourceLimit "") else
    let newCap ← choose (.appendCap (len + n) cap e)
    askRoom (newCap * (← typeInfo e).bytes)
    let old ← Builtin.firstCells size len (.slice base len cap)
    let new ← Builtin.firstCells size n x
    let rest := Builtin.zeroCells (← zeroValue e).cells (newCap - (len + n))
    pure (.slice (some (← newRow e (old ++ new ++ rest))) (len + n) newCap)
theorem append_core {tS tX e : TypeId} {dX : TypeDesc} {argTypes : Array TypeId} {ty : TypeId} (ht0 : argTypes[0]? = some tS) (ht1 : argTypes[1]? = some tX) (hu : P.underlying tS = some (.slice e)) (hX : P.underlying tX = some dX) (hd : isInt dX = false)
    (hp : 0 < P.cellsOf e) (hb : 0 < P.bytesOf e) {base : Option Addr} {len cap n : Nat} {x : Value} (hn : (Builtin.lenOf x).run P w = .ok n w) (hfit : fitsB P e (len + n)) :
    (Builtin.append_ argTypes ty #[.slice base len cap, x]).run P w = (appCore e base len cap (P.cellsOf e) n x).run P w := by
  obtain ⟨ii, hii⟩ : ∃ ii, P.info? e = some ii := by
    unfold Program.cellsOf at hp
    cases hq : P.info? e with
    | none => rw [hq] at hp; simp at hp
    | some i => exact ⟨i, rfl⟩
  have hbe : ii.bytes = P.bytesOf e := by unfold Program.bytesOf; rw [hii]; rfl
  have a0 : (#[Value.slice base len cap, x])[0]? = some (.slice base len cap) := rfl
  have a1 : (#[Value.slice base len cap, x])[1]? = some x := rfl
  have hneed : len + n ≤ 281474976710656 := by
    unfold fitsB at hfit
    have hb1 : 1 ≤ P.bytesOf e := hb
    have : (5 * (len + n) + 4096) * 1 ≤ (5 * (len + n) + 4096) * P.bytesOf e := Nat.mul_le_mul_left _ hb1
    omega
  unfold Builtin.append_ appCore
  simp only [ht0, ht1, a0, a1, Sem.run_bind, run_underlying hu, Result.andThen_ok, Go.run_sizeOf _ hii, run_underlying hX, Sem.run_pure]
  cases dX <;> first
    | (simp [isInt] at hd; done)
    | (simp only [Bool.false_eq_true, if_false, Bool.not_false, if_true, hn, Sem.run_bind, Sem.run_ite, Sem.run_pure, Result.andThen_ok, run_typeInfo _ hii, false_or]
       split
       · rfl
       · rename_i hroom
         by_cases hcap : Builtin.nextslicecap (len + n) cap * ii.bytes > 2 ^ 48
         · exfalso
           have h1 := nextcap_bytes (show cap < len + n by omega) hfit
           rw [hbe] at hcap
           omega
         · rw [if_neg (by rw [hbe]; simp [IntKind.max, IntKind.signed, IntKind.bits]; omega)]
           rw [if_neg hcap, if_neg hcap])

/-- Appending where there is no room: a new block. -/
theorem run_core_grow {e : TypeId} {z : Value} (hz : (zeroValue e).run P w.drew = .ok z w.drew) (hzl : z.cells.size = P.cellsOf e) (hp : 0 < P.cellsOf e) (hz1 : ∀ v ∈ z.cells.toList, v.oneCell' = true)
    {base : Option Addr} {len cap n : Nat} {x : Value} {us ws : List Value} (hlt : cap < len + n) (hfit : fitsB P e (len + n))
    (hold : (Builtin.firstCells (P.cellsOf e) len (.slice base len cap)).run P w.drew = .ok ⟨us⟩ w.drew) (hnew : (Builtin.firstCells (P.cellsOf e) n x).run P w.drew = .ok ⟨ws⟩ w.drew) :
    ∃ c rest, len + n ≤ c ∧ (appCore e base len cap (P.cellsOf e) n x).run P w = .ok (.slice (some ⟨w.heap.size, 0, none⟩) (len + n) c) (w.drew.alloc (.cells ⟨us ++ ws ++ rest⟩ e)) ∧ rest.length = (c - (len + n)) * P.cellsOf e ∧ ∀ v ∈ rest, v.oneCell' = true := by
  obtain ⟨c, hc, hcle⟩ := run_choose_cap (P := P) (w := w) (len + n) cap e
  refine ⟨c, (Builtin.zeroCells z.cells (c - (len + n))).toList, hcle, ?_, by rw [zeros_len, hzl], zeros_one hz1 (by rw [hzl]; exact hp) _⟩
  obtain ⟨ii, hii⟩ : ∃ ii, P.info? e = some ii := by
    unfold Program.cellsOf at hp
    cases hq : P.info? e with
    | none => rw [hq] at hp; simp at hp
    | some i => exact ⟨i, rfl⟩
  have hbe : ii.bytes = P.bytesOf e := by unfold Program.bytesOf; rw [hii]; rfl
  have hcap : ¬ (Builtin.nextslicecap (len + n) cap * ii.bytes > 2 ^ 48) := by
    have h1 := nextcap_bytes hlt hfit
    rw [hbe]
    omega
  unfold appCore
  rw [if_neg (by omega)]
  simp only [Sem.run_bind, run_typeInfo _ hii, Result.andThen_ok, Sem.run_ite]
  rw [if_neg hcap, hc]
  simp only [Result.andThen_ok, Sem.run_bind, run_typeInfo _ hii, run_askRoom, hold, hnew, hz, Sem.run_pure, newRow, run_newObj]
  have e1 : ((⟨us⟩ : Array Value) ++ ⟨ws⟩ ++ Builtin.zeroCells z.cells (c - (len + n))) = ⟨us ++ ws ++ (Builtin.zeroCells z.cells (c - (len + n))).toList⟩ := by
    apply Array.toList_inj.1; simp
  rw [e1]
  rfl
/-- Appending where there is room. -/
theorem run_core_room {e : TypeId} {B o : Nat} {T : TypeId} {fz : Nat × Nat} {vs : List Value} (hB : w.heap[B]? = some (.cells ⟨vs⟩ T fz)) (hf : ∀ p, p < vs.length → ¬ (fz.1 ≤ p ∧ p < fz.2))
    {len cap n sz : Nat} {x : Value} {ws : List Value} (hle : len + n ≤ cap) (hnew : (Builtin.firstCells sz n x).run P w = .ok ⟨ws⟩ w) (h1 : ∀ v ∈ ws, v.oneCell' = true) (hlen : o + len * sz + ws.length ≤ vs.length) :
    ∃ w', (appCore e (some ⟨B, o, none⟩) len cap sz n x).run P w = .ok (.slice (some ⟨B, o, none⟩) (len + n) cap) w' ∧ Only w w' B (blit vs (o + len * sz) ws) T fz := by
  obtain ⟨w', hr, ho⟩ := run_storeCells_on (P := P) B (o + len * sz) T fz ws 0 vs w hB (by omega) h1 hf
  refine ⟨w', ?_, by simpa using ho⟩
  unfold appCore
  rw [if_pos hle]
  simp only [Sem.run_bind, hnew, Result.andThen_ok, addr_add]
  rw [hr]
  rfl

theorem okCells {e : TypeId} {cs : List G} (h : zeroCells P e = some cs) (hp : 0 < P.cellsOf e) (w : World) : ∃ z : Value, (zeroValue e).run P w = .ok z w ∧ z.cells.size = P.cellsOf e ∧ ∀ v ∈ z.cells.toList, v.oneCell' = true := by
  obtain ⟨z, h1, h2, h3, h4, _⟩ := zeroCells_sound h w
  exact ⟨z, h1, by rw [← Array.length_toList, h2, h3], h4⟩

/-- The new block of an append is laid as row k. -/
theorem Inv.newRow {k : Nat} (h : Inv C F st a w) (hk : C.row k = none) (hlt : k < st.rows.length) {sz n : Nat} {vs : List Value} {T : TypeId} {fz : Nat × Nat} {xs : List (List G)} (hn : n * sz ≤ vs.length) (hx : 0 < xs.length ∧ xs.length ≤ n) (h1 : ∀ v ∈ vs, v.oneCell' = true)
    (hf : ∀ o : Nat, (o < vs.length ∨ ovlK.isEmpty = false) → ¬ (fz.1 ≤ o ∧ o < fz.2)) (hc : ∀ r ∈ xs, r.length = sz ∧ ∀ g ∈ r, g.closed0 = true) (hR : ∀ (i : Nat) r (j : Nat) g v, xs[i]? = some r → r[j]? = some g → vs[i * sz + j]? = some v → Rep C w g v) :
    ∃ C', Inv C' F (st.setRow k xs) a (w.alloc (.cells ⟨vs⟩ T fz)) ∧ C'.row k = some (some (w.heap.size, 0, sz, n)) := by
  have h2 := h.own_alloc (.cells ⟨vs⟩ T fz)
  have hb : ∀ b B, C.box b = some B → B < w.heap.size := fun b B hb => h.mem.lt _ (h.mem.ltB hb)
  have hr : ∀ k B s sz n, C.row k = some (some (B, s, sz, n)) → B < w.heap.size := fun k B s sz n hk => h.mem.lt _ (h.mem.ltR hk)
  obtain ⟨C', h3, h4, _⟩ := h2.addRow (k := k) (B := w.heap.size) (s := 0) (sz := sz) (n := n) (vs := vs) (T := T) (fz := fz) (xs := xs) hk hlt (.inr rfl) (.inr h.fr.size) (fun b e => absurd (hb b _ e) (by omega)) (fun k s z n e => absurd (hr k _ s z n e) (by omega))
    (heap_alloc_new w _) (by omega) hx hf h1 hc (fun i r j g v a1 a2 a3 => by
      rw [Nat.zero_add] at a3
      exact (hR i r j g v a1 a2 a3).keep0 ((hc r (List.mem_of_getElem? a1)).2 g (List.mem_of_getElem? a2)) (keeps_alloc _ w _) (fun B hB hn => by rintro (h | h); exact hn h; omega))
  exact ⟨C', h3, h4⟩

theorem Cols.drew {sz : Nat} {xs : List (List G)} {us : List Value} (h : Cols C w sz xs us) : Cols C w.drew sz xs us := h.keep0 ⟨Nat.le_refl _, fun _ _ _ => rfl, fun _ vs _ fz h => ⟨vs, fz, h, rfl⟩⟩ (fun _ _ h => h)

theorem Inv.rowTo {k : Nat} {xs xs' : List (List G)} {w' : World} (h : Inv C F st a w) (hxs : st.rows[k]? = some (some xs)) {B s sz n : Nat} {vs' : List Value} {T : TypeId} {fz : Nat × Nat} (k1 : C.row k = some (some (B, s, sz, n)))
    (k4 : s + n * sz ≤ vs'.length) (k6 : ∀ o : Nat, (o < vs'.length ∨ ovlK.isEmpty = false) → ¬ (fz.1 ≤ o ∧ o < fz.2)) (hx : 0 < xs'.length ∧ xs'.length ≤ n) (h1 : ∀ v ∈ vs', v.oneCell' = true)
    (h7 : ∀ r ∈ xs', r.length = sz ∧ ∀ g ∈ r, g.closed0 = true) (h8 : ∀ (i : Nat) r (j : Nat) g v, xs'[i]? = some r → r[j]? = some g → vs'[s + i * sz + j]? = some v → Rep C w g v)
    (ho : Only w w' B vs' T fz) : Inv C F (st.setRow k xs') a w' := by
  have he : C.ex B := h.mem.ltR k1
  have hk := ho.keeps he
  have keep : ∀ g v, Rep C w g v → Rep C w' g v := fun g v hg => hg.keep hk (fun _ _ h => h) (fun _ _ h => h) (fun _ _ h => h)
  have hkl : k < st.rows.length := (List.getElem?_eq_some_iff.1 hxs).1
  refine ⟨h.nd, h.sz, fun j g v hg hv => keep g v (h.slots j g v hg hv), ⟨fun x cs' hx => ?_, fun x ys hx' => ?_, h.mem.domB, fun x X hx' => ?_, h.mem.bb, h.mem.rr, h.mem.br, fun X hX => by rw [ho.size]; exact h.mem.lt X hX⟩, ho.fr h.fr (h.tr k B s sz n k1), h.ex0, h.exn, h.t0, h.tb, h.tr, h.fb⟩
  · obtain ⟨X, vs', T', q1, q2, q3, q4, q5, q6⟩ := h.mem.box x cs' hx
    have hne : X ≠ B := fun e' => h.mem.br x k B s sz n (by rw [← e']; exact q1) k1
    exact ⟨X, vs', T', q1, q2, by rw [ho.block X hne]; exact q3, q4, q5, fun j g v hg hv => ⟨(q6 j g v hg hv).1, keep _ _ (q6 j g v hg hv).2⟩⟩
  · by_cases e : x = k
    · subst e
      simp only [St.setRow, List.getElem?_set_self hkl, Option.some.injEq] at hx'
      subst hx'
      exact .inr (.inl ⟨B, s, sz, n, _, T, fz, k1, he, ho.here, k4, hx, k6, h1, h7, fun i r j g v a1 a2 a3 => keep _ _ (h8 i r j g v a1 a2 a3)⟩)
    · simp only [St.setRow, List.getElem?_set_ne (fun e' => e e'.symm)] at hx'
      rcases h.mem.row x ys hx' with q1 | ⟨X, s', sz', n', vs', T', fz', q1, q2, q3, q4, q5, q6, q6b, q7, q8⟩ | km
      · exact .inl q1
      · have hne : X ≠ B := fun e' => e (h.mem.rr x k X s' sz' n' s sz n q1 (by rw [e']; exact k1))
        exact .inr (.inl ⟨X, s', sz', n', vs', T', fz', q1, q2, by rw [ho.block X hne]; exact q3, q4, q5, q6, q6b, q7, fun i r j g v a1 a2 a3 => keep _ _ (q8 i r j g v a1 a2 a3)⟩)
      · exact .inr (.inr (km.move (fun q h => h) (fun _ _ _ h => h) (fun X q hq => ho.block X (fun e' => e (h.mem.rr x k X _ _ _ s sz n hq (by rw [e']; exact k1)))) (fun g u _ hu => keep _ _ hu)))
  · by_cases e : x = k
    · subst e; exact ⟨_, by simp only [St.setRow]; exact List.getElem?_set_self hkl⟩
    · obtain ⟨ys, hys⟩ := h.mem.domR x X hx'
      exact ⟨ys, by simp only [St.setRow, List.getElem?_set_ne (fun e' => e e'.symm)]; exact hys⟩
theorem blitR_len {xs ys : List (List G)} {p : Nat} (h : p + ys.length ≤ xs.length) : (blitR xs p ys).length = xs.length := by
  unfold blitR; simp only [List.length_append, List.length_take, List.length_drop]; omega
theorem blitR_get {xs ys : List (List G)} {p i : Nat} (h : p + ys.length ≤ xs.length) : (blitR xs p ys)[i]? = if p ≤ i ∧ i < p + ys.length then ys[i - p]? else xs[i]? := by
  unfold blitR
  have hl : (xs.take p).length = p := by rw [List.length_take]; omega
  by_cases h1 : i < p
  · rw [if_neg (by omega), List.append_assoc, List.getElem?_append_left (by rw [hl]; exact h1), List.getElem?_take, if_pos h1]
  · by_cases h2 : i < p + ys.length
    · rw [if_pos ⟨by omega, h2⟩, List.getElem?_append_left (by rw [List.length_append, hl]; exact h2), List.getElem?_append_right (by rw [hl]; omega), hl]
    · rw [if_neg (by omega), List.getElem?_append_right (by rw [List.length_append, hl]; omega), List.length_append, hl, List.getElem?_drop]
      congr 1; omega
theorem Inv.blitRow {k p : Nat} {xs ys : List (List G)} {w' : World} (h : Inv C F st a w) (hxs : st.rows[k]? = some (some xs)) {B s sz n : Nat} {vs ws : List Value} {T : TypeId} {fz : Nat × Nat} (k1 : C.row k = some (some (B, s, sz, n)))
    (k4 : s + n * sz ≤ vs.length) (k5 : 0 < xs.length ∧ xs.length ≤ n) (k6 : ∀ o : Nat, (o < vs.length ∨ ovlK.isEmpty = false) → ¬ (fz.1 ≤ o ∧ o < fz.2)) (k6b : ∀ v ∈ vs, v.oneCell' = true)
    (k7 : ∀ r ∈ xs, r.length = sz ∧ ∀ g ∈ r, g.closed0 = true) (k8 : ∀ (i : Nat) r (j : Nat) g v, xs[i]? = some r → r[j]? = some g → vs[s + i * sz + j]? = some v → Rep C w g v)
    (hc : Cols C w sz ys ws) (hp : p + ys.length ≤ xs.length) (ho : Only w w' B (blit vs (s + p * sz) ws) T fz) : Inv C F (st.setRow k (blitR xs p ys)) a w' := by
  have hsp : s + p * sz + ws.length ≤ vs.length := by
    have : (p + ys.length) * sz ≤ n * sz := Nat.mul_le_mul_right _ (by omega)
    rw [Nat.add_mul] at this
    rw [hc.len]; omega
  refine h.rowTo hxs k1 (by rw [blit_length]; exact k4) (fun o ho => k6 o (by rwa [blit_length] at ho)) (by rw [blitR_len hp]; exact k5) (fun v hv => ?_) (fun r hr => ?_) (fun i r j g v a1 a2 a3 => ?_) ho
  · obtain ⟨i, hi⟩ := List.mem_iff_getElem?.1 hv
    rw [blit_get _ _ _ _ hsp] at hi
    split at hi
    · exact hc.one v (List.mem_of_getElem? hi)
    · exact k6b v (List.mem_of_getElem? hi)
  · obtain ⟨i, hi⟩ := List.mem_iff_getElem?.1 hr
    rw [blitR_get hp] at hi
    split at hi
    · exact hc.row r (List.mem_of_getElem? hi)
    · exact k7 r (List.mem_of_getElem? hi)
  · rw [blitR_get hp] at a1
    rw [blit_get _ _ _ _ hsp] at a3
    have hwl := hc.len
    split at a1
    · rename_i hpi
      have hj : j < sz := by rw [← (hc.row r (List.mem_of_getElem? a1)).1]; exact (List.getElem?_eq_some_iff.1 a2).1
      have hi2 : i - p < ys.length := by omega
      have hm := mul_lt hi2 hj
      have e2 : i * sz = p * sz + (i - p) * sz := by rw [← Nat.add_mul]; congr 1; omega
      rw [if_pos (by omega), show s + i * sz + j - (s + p * sz) = (i - p) * sz + j from by omega] at a3
      exact hc.rep (i - p) r j g v a1 a2 a3
    · rename_i hpi
      have hj : j < sz := by rw [← (k7 r (List.mem_of_getElem? a1)).1]; exact (List.getElem?_eq_some_iff.1 a2).1
      have hil : i < xs.length := (List.getElem?_eq_some_iff.1 a1).1
      rw [if_neg (by
        intro hcc
        rcases Nat.lt_or_ge i p with hlt | hge
        · have : (i + 1) * sz ≤ p * sz := Nat.mul_le_mul_right _ hlt
          rw [Nat.succ_mul] at this; omega
        · have : (p + ys.length) * sz ≤ i * sz := Nat.mul_le_mul_right _ (by omega)
          rw [Nat.add_mul] at this; omega)] at a3
      exact k8 i r j g v a1 a2 a3
theorem app_sound {d : Nat} {s x : G} {tS tX : TypeId} {k : G → St → Prop} (h : appP P d s x tS tX st k) (hi : Inv C F st a w) {u v : Value} (hs : Rep C w s u) (hx : Rep C w x v) {argTypes : Array TypeId} {ty : TypeId}
    (ht0 : argTypes[0]? = some tS) (ht1 : argTypes[1]? = some tX) : ∃ z w', (Builtin.append_ argTypes ty #[u, v]).run P w = .ok z w' ∧ After F k a z w' := by
  unfold appP at h
  split at h
  · rename_i e dX hu hX
    cases hq : isInt dX || (P.bytesOf e == 0) || (zeroCells P e).isNone || (P.cellsOf e == 0) || !(Nat.blt d st.rows.length) with
    | true => rw [hq] at h; exact h.elim
    | false =>
      rw [hq] at h
      simp only [Bool.or_eq_false_iff, beq_eq_false_iff_ne, Bool.not_eq_false'] at hq
      obtain ⟨⟨⟨⟨q1, q2⟩, q3⟩, q4⟩, q5⟩ := hq
      have q5 : d < st.rows.length := Nat.le_of_ble_eq_true q5
      have hp : 0 < P.cellsOf e := Nat.pos_of_ne_zero q4
      have hb : 0 < P.bytesOf e := Nat.pos_of_ne_zero q2
      obtain ⟨cs, hcs⟩ : ∃ cs, zeroCells P e = some cs := by cases hz : zeroCells P e <;> simp_all
      simp only [cond_false] at h
      obtain ⟨ys, h, hlen, hread⟩ := src_sound h hi hx hp
      cases hok : okRows (P.cellsOf e) ys with
      | false => rw [hok] at h; exact h.elim
      | true =>
        rw [hok] at h
        have hrows := okRows_iff hok
        obtain ⟨ws, hws, hcw⟩ := hread hrows
        obtain ⟨z, hz, hzl, hz1⟩ := okCells hcs hp w.drew
        have onto : ∀ A, u = .slice A 0 0 → fitsB P e ys.length → ∃ z w' C2, (Builtin.append_ argTypes ty #[u, v]).run P w = .ok z w' ∧ Inv C2 F ((st.freeRow d).setRow d ys) a w' ∧ Rep C2 w' (.own d 0 ys.length) z ∧ (A = none → P.cellsOf e = 1 → Rep C2 w' (.ownt d ys.length e) z) := fun A0 hu0 hfit => by
            subst hu0
            rw [append_core ht0 ht1 hu hX q1 hp hb hlen (by rw [Nat.zero_add]; exact hfit)]
            obtain ⟨C1, hI1, hk1, hbx, hex, hrw, _⟩ := hi.freeRow d
            rcases Nat.eq_zero_or_pos ys.length with e0 | hpos
            · obtain rfl : ys = [] := List.length_eq_zero_iff.1 e0
              obtain ⟨C2, hI2, hk2, _⟩ := hI1.addNil hk1 (by rw [freeRow_len]; exact q5)
              refine ⟨.slice A0 0 0, w, C2, ?_, hI2, .ownnil d A0 hk2, fun e0 _ => by rw [e0]; exact .owntnil d e hk2⟩
              unfold appCore
              rw [if_pos (by simp)]
              simp only [Sem.run_bind]
              rw [show (Builtin.firstCells (P.cellsOf e) ([] : List (List G)).length v).run P w = .ok ⟨ws⟩ w from hws w rfl]
              obtain rfl : ws = [] := List.length_eq_zero_iff.1 (by rw [hcw.len]; simp)
              cases A0 <;> simp [storeCells]
            · obtain ⟨c, rest, hc1, hc2, hc3, hc4⟩ := run_core_grow (P := P) (w := w) hz hzl hp hz1 (base := A0) (len := 0) (cap := 0) (n := ys.length) (x := v) (us := []) (ws := ws) (by omega) (by rw [Nat.zero_add]; exact hfit) (by cases A0 <;> simp [Builtin.firstCells, loadCells, loadCellsFrom]) (hws w.drew rfl)
              rw [Nat.zero_add] at hc1 hc3
              have hlw := hcw.len
              obtain ⟨C2, hI2, hk2⟩ := (hI1.drew).newRow (k := d) hk1 (by rw [freeRow_len]; exact q5) (sz := P.cellsOf e) (n := c) (vs := [] ++ ws ++ rest) (T := e) (fz := (0, 0)) (xs := ys)
                (by simp only [List.nil_append, List.length_append, hlw, hc3, ← Nat.add_mul]; exact Nat.mul_le_mul_right _ (by omega)) ⟨by omega, hc1⟩
                (fun q hq => by
                  rcases List.mem_append.1 hq with hq | hq
                  · exact hcw.one q (by simpa using hq)
                  · exact hc4 q hq) (fun o _ => by simp) hrows
                (fun i r j g q a1 a2 a3 => by
                  have hj0 : j < P.cellsOf e := by rw [← (hrows r (List.mem_of_getElem? a1)).1]; exact (List.getElem?_eq_some_iff.1 a2).1
                  have hi0 : i < ys.length := (List.getElem?_eq_some_iff.1 a1).1
                  rw [List.nil_append, List.getElem?_append_left (by rw [hlw]; exact mul_lt hi0 hj0)] at a3
                  exact (hcw.rep i r j g q a1 a2 a3).keep0 ((hrows r (List.mem_of_getElem? a1)).2 g (List.mem_of_getElem? a2)) ⟨Nat.le_refl _, fun _ _ _ => rfl, fun _ vs _ fz h => ⟨vs, fz, h, rfl⟩⟩ (fun B _ hn => by rw [hex]; exact hn))
              refine ⟨_, _, C2, hc2, hI2, ?_, fun _ h1 => ?_⟩
              · have := Rep.own (C := C2) (w := w.drew.alloc (.cells ⟨[] ++ ws ++ rest⟩ e)) d 0 ys.length _ 0 (P.cellsOf e) c ⟨w.drew.heap.size, 0, none⟩ hk2 (by omega) ⟨fun _ => by simp, rfl, rfl⟩ (by omega)
                simpa using this
              · rw [h1] at hk2
                have := Rep.ownt (C := C2) (w := w.drew.alloc (.cells ⟨[] ++ ws ++ rest⟩ e)) d ys.length e _ c _ (0, 0) hk2 hc1 (heap_alloc_new w.drew _)
                simpa using this
        have onRow : ∀ (kk off len : Nat) (xs : List (List G)), st.rows.getD kk none = some xs → (off + len ≤ xs.length ∧ (0 < len + ys.length ∨ xs = []) ∧ fitsB P e (len + ys.length) ∧ ∀ r ∈ xs, r.length = P.cellsOf e) → Rep C w (.own kk off len) u →
            ∃ z w' C2, (Builtin.append_ argTypes ty #[u, v]).run P w = .ok z w' ∧ Inv C2 F ((st.killR kk).setRow kk ((xs.drop off).take len ++ ys)) a w' ∧ Rep C2 w' (.own kk 0 (len + ys.length)) z ∧
              (off = 0 → P.cellsOf e = 1 → ((u = .slice none 0 0 ∧ C.row kk = some none) ∨ ∃ (B n : Nat) (vs : Array Value) (fz : Nat × Nat), C.row kk = some (some (B, 0, 1, n)) ∧ w.heap[B]? = some (.cells vs e fz)) → Rep C2 w' (.ownt kk (len + ys.length) e) z) := fun kk off len xs hxs ⟨hle, hpos, hfit, hxr⟩ hs => by
            have hkl : kk < st.rows.length := (List.getElem?_eq_some_iff.1 (rowsOf hxs)).1
            have hold : ((xs.drop off).take len).length = len := by simp; omega
            have hkill := hi.killR kk
            have hkn : (C.noR kk).row kk = none := by show (if kk = kk then none else _) = _; rw [if_pos rfl]
            have hkl' : kk < (st.killR kk).rows.length := by simpa [St.killR] using hkl
            rcases hi.mem.row2 (rowsOf hxs) hs.own_nm with ⟨k1, rfl⟩ | ⟨B, s0, sz, n, vs, T, fz, k1, k2, k3, k4, k5, k6, k6b, k7, k8⟩
            · -- the row is nil
              simp only [List.length_nil] at hle
              obtain rfl : off = 0 := by omega
              obtain rfl : len = 0 := by omega
              cases hs with
              | own _ _ _ _ _ _ _ _ hr => rw [k1] at hr; cases hr
              | ownnil _ A0 hr =>
                rw [append_core ht0 ht1 hu hX q1 hp hb hlen hfit]
                rcases Nat.eq_zero_or_pos ys.length with e0 | hpos
                · obtain rfl : ys = [] := List.length_eq_zero_iff.1 e0
                  obtain ⟨C2, hI2, hk2, _⟩ := hkill.addNil hkn hkl'
                  refine ⟨.slice A0 0 0, w, C2, ?_, by simpa using hI2, .ownnil kk A0 hk2, fun _ _ ht => by
                    rcases ht with ⟨e1, _⟩ | ⟨B, n, vs, fz, e1, _⟩
                    · cases e1; exact .owntnil kk e hk2
                    · rw [k1] at e1; cases e1⟩
                  unfold appCore
                  rw [if_pos (by simp)]
                  simp only [Sem.run_bind]
                  rw [show (Builtin.firstCells (P.cellsOf e) ([] : List (List G)).length v).run P w = .ok ⟨ws⟩ w from hws w rfl]
                  obtain rfl : ws = [] := List.length_eq_zero_iff.1 (by rw [hcw.len]; simp)
                  cases A0 <;> simp [storeCells]
                · obtain ⟨c, rest, hc1, hc2, hc3, hc4⟩ := run_core_grow (P := P) (w := w) hz hzl hp hz1 (base := A0) (len := 0) (cap := 0) (n := ys.length) (x := v) (us := []) (ws := ws) (by omega) hfit (by cases A0 <;> simp [Builtin.firstCells, loadCells, loadCellsFrom]) (hws w.drew rfl)
                  rw [Nat.zero_add] at hc1 hc3
                  have hlw := hcw.len
                  obtain ⟨C2, hI2, hk2⟩ := (hkill.drew).newRow (k := kk) hkn hkl' (sz := P.cellsOf e) (n := c) (vs := [] ++ ws ++ rest) (T := e) (fz := (0, 0)) (xs := ys)
                    (by simp only [List.nil_append, List.length_append, hlw, hc3, ← Nat.add_mul]; exact Nat.mul_le_mul_right _ (by omega)) ⟨by omega, hc1⟩
                    (fun q hq => by
                      rcases List.mem_append.1 hq with hq | hq
                      · exact hcw.one q (by simpa using hq)
                      · exact hc4 q hq) (fun o _ => by simp) hrows
                    (fun i r j g q a1 a2 a3 => by
                      have hj0 : j < P.cellsOf e := by rw [← (hrows r (List.mem_of_getElem? a1)).1]; exact (List.getElem?_eq_some_iff.1 a2).1
                      have hi0 : i < ys.length := (List.getElem?_eq_some_iff.1 a1).1
                      rw [List.nil_append, List.getElem?_append_left (by rw [hlw]; exact mul_lt hi0 hj0)] at a3
                      exact (hcw.rep i r j g q a1 a2 a3).keep0 ((hrows r (List.mem_of_getElem? a1)).2 g (List.mem_of_getElem? a2)) ⟨Nat.le_refl _, fun _ _ _ => rfl, fun _ vs _ fz h => ⟨vs, fz, h, rfl⟩⟩ (fun B _ hn => hn))
                  refine ⟨_, _, C2, hc2, hI2, ?_, fun _ h1 _ => ?_⟩
                  · have := Rep.own (C := C2) (w := w.drew.alloc (.cells ⟨[] ++ ws ++ rest⟩ e)) kk 0 (0 + ys.length) _ 0 (P.cellsOf e) c ⟨w.drew.heap.size, 0, none⟩ hk2 (by omega) ⟨fun _ => by simp, rfl, rfl⟩ (by omega)
                    simpa using this
                  · rw [h1] at hk2
                    have := Rep.ownt (C := C2) (w := w.drew.alloc (.cells ⟨[] ++ ws ++ rest⟩ e)) kk (0 + ys.length) e _ c _ (0, 0) hk2 (by omega) (heap_alloc_new w.drew _)
                    simpa using this
            · cases hs with
              | ownnil _ A0 hr => rw [k1] at hr; cases hr
              | own _ _ _ _ _ _ _ A hr ho hA hnz =>
                rw [k1] at hr; cases hr
                have hpos : 0 < len + ys.length := hpos.resolve_right (fun e => by rw [e] at k5; exact absurd k5.1 (by simp))
                rw [append_core ht0 ht1 hu hX q1 hp hb hlen hfit]
                have hx0 : xs[0]? = some (xs[0]'(by omega)) := List.getElem?_eq_getElem (by omega)
                have hsz : sz = P.cellsOf e := by rw [← (k7 _ (List.mem_of_getElem? hx0)).1]; exact hxr _ (List.mem_of_getElem? hx0)
                subst hsz
                have hlw := hcw.len
                have hget : ∀ (i : Nat) r, ((xs.drop off).take len)[i]? = some r → xs[off + i]? = some r := fun i r hir => by
                  rw [List.getElem?_take] at hir
                  split at hir
                  · rwa [List.getElem?_drop] at hir
                  · cases hir
                have hallrows : ∀ r ∈ (xs.drop off).take len ++ ys, r.length = P.cellsOf e ∧ ∀ g ∈ r, g.closed0 = true := fun r hr => by
                  rcases List.mem_append.1 hr with hr | hr
                  · exact k7 r (List.mem_of_mem_drop (List.mem_of_mem_take hr))
                  · exact hrows r hr
                have hBt := hi.tr kk B s0 (P.cellsOf e) n k1
                have hnb : ∀ b, (C.noR kk).box b ≠ some B := fun b e => hi.mem.br b kk B _ _ _ e k1
                have hnr : ∀ k' s z n', (C.noR kk).row k' ≠ some (some (B, s, z, n')) := fun k' s z n' e => by
                  have e' : (if k' = kk then none else C.row k') = some (some (B, s, z, n')) := e
                  split at e'
                  · cases e'
                  · rename_i hne; exact hne (hi.mem.rr k' kk B s z n' _ _ _ e' k1)
                by_cases hroom : len + ys.length ≤ n - off
                · -- there is room
                  rcases Nat.eq_zero_or_pos (n - off) with hz0 | hn0
                  · omega
                  · obtain rfl := hA.1 (by omega)
                    have hspace : s0 + off * P.cellsOf e + len * P.cellsOf e + ws.length ≤ vs.length := by
                      have : (off + len + ys.length) * P.cellsOf e ≤ n * P.cellsOf e := Nat.mul_le_mul_right _ (by omega)
                      rw [Nat.add_mul, Nat.add_mul] at this
                      omega
                    obtain ⟨w', hrun, hon⟩ := run_core_room (P := P) (e := e) (o := s0 + off * P.cellsOf e) k3 (fun o ho => k6 o (.inl ho)) hroom (hws w rfl) hcw.one hspace
                    have hI2 := hkill.only hon k2 hBt hnb hnr
                    obtain ⟨C3, hI3, hk3, _⟩ := hI2.addRow (k := kk) (B := B) (s := s0 + off * P.cellsOf e) (sz := P.cellsOf e) (n := n - off) (xs := (xs.drop off).take len ++ ys) hkn hkl' k2 hBt hnb hnr hon.here
                      (by
                        rw [blit_length]
                        have : off * P.cellsOf e + (n - off) * P.cellsOf e = n * P.cellsOf e := by rw [← Nat.add_mul]; congr 1; omega
                        omega)
                      (by rw [List.length_append, hold]; omega) (fun o ho => k6 o (by first | rwa [blit_length] at ho | (simp only [List.length_append, blit_length] at ho ⊢; omega)))
                      (fun q hq => by
                        obtain ⟨j, hj⟩ := List.mem_iff_getElem?.1 hq
                        rw [blit_get _ _ _ _ hspace] at hj
                        split at hj
                        · exact hcw.one q (List.mem_of_getElem? hj)
                        · exact k6b q (List.mem_of_getElem? hj)) hallrows
                      (fun i r j g q a1 a2 a3 => by
                        have hcl := (hallrows r (List.mem_of_getElem? a1)).2 g (List.mem_of_getElem? a2)
                        have hj0 : j < P.cellsOf e := by rw [← (hallrows r (List.mem_of_getElem? a1)).1]; exact (List.getElem?_eq_some_iff.1 a2).1
                        refine Rep.keep0 (C := C) (w := w) ?_ hcl (hon.keeps k2) (fun _ _ h => h)
                        rw [blit_get _ _ _ _ hspace] at a3
                        by_cases hil : i < len
                        · rw [List.getElem?_append_left (by rw [hold]; exact hil)] at a1
                          have hm := mul_lt hil hj0
                          rw [if_neg (by omega)] at a3
                          have e2 : s0 + off * P.cellsOf e + i * P.cellsOf e + j = s0 + (off + i) * P.cellsOf e + j := by rw [Nat.add_mul]; omega
                          rw [e2] at a3
                          exact k8 (off + i) r j g q (hget i r a1) a2 a3
                        · rw [List.getElem?_append_right (by rw [hold]; omega), hold] at a1
                          have hi0 : i - len < ys.length := (List.getElem?_eq_some_iff.1 a1).1
                          have hm := mul_lt hi0 hj0
                          have e2 : i * P.cellsOf e = len * P.cellsOf e + (i - len) * P.cellsOf e := by rw [← Nat.add_mul]; congr 1; omega
                          rw [if_pos (by omega), show s0 + off * P.cellsOf e + i * P.cellsOf e + j - (s0 + off * P.cellsOf e + len * P.cellsOf e) = (i - len) * P.cellsOf e + j from by omega] at a3
                          exact hcw.rep (i - len) r j g q a1 a2 a3)
                    refine ⟨_, w', C3, hrun, hI3, ?_, fun h0 h1 ht => ?_⟩
                    · have := Rep.own (C := C3) (w := w') kk 0 (len + ys.length) B (s0 + off * P.cellsOf e) (P.cellsOf e) (n - off) ⟨B, s0 + off * P.cellsOf e, none⟩ hk3 (by omega) ⟨fun _ => by simp, rfl, rfl⟩ (by omega)
                      simpa using this
                    · rcases ht with ⟨_, e1⟩ | ⟨B1, n1, vs1, fz1, e1, e2⟩
                      · rw [k1] at e1; cases e1
                      · rw [k1] at e1
                        simp only [Option.some.injEq, Prod.mk.injEq] at e1
                        obtain ⟨rfl, rfl, _, rfl⟩ := e1
                        subst h0
                        obtain ⟨vs2, fz2, e3, _⟩ := hon.ty _ _ _ _ e2
                        rw [h1, Nat.zero_mul, Nat.add_zero, Nat.sub_zero] at hk3
                        have := Rep.ownt (C := C3) (w := w') kk (len + ys.length) e _ n vs2 fz2 hk3 (by omega) e3
                        simpa using this
                · -- there is none
                  obtain ⟨_, rfl, hlen2, hread2⟩ := src_sound (P := P) (st := st) (x := .own kk off len) (k := fun zs => zs = (xs.drop off).take len) (by simp only [srcP, hxs]; exact ⟨hle, trivial⟩) hi (Rep.own kk off len B s0 (P.cellsOf e) n A k1 ho hA hnz) hp
                  obtain ⟨us, hus, hcu⟩ := hread2 (fun r hr => hallrows r (List.mem_append_left _ hr))
                  rw [hold] at hus
                  obtain ⟨c, rest, hc1, hc2, hc3, hc4⟩ := run_core_grow (P := P) (w := w) hz hzl hp hz1 (base := some A) (len := len) (cap := n - off) (n := ys.length) (x := v) (us := us) (ws := ws) (by omega) hfit (hus w.drew rfl) (hws w.drew rfl)
                  have hcc := hcu.append hcw
                  have hlc : (us ++ ws).length = (len + ys.length) * P.cellsOf e := by rw [hcc.len, List.length_append, hold]
                  obtain ⟨C2, hI2, hk2⟩ := (hkill.drew).newRow (k := kk) hkn hkl' (sz := P.cellsOf e) (n := c) (vs := us ++ ws ++ rest) (T := e) (fz := (0, 0)) (xs := (xs.drop off).take len ++ ys)
                    (by rw [List.length_append (as := us ++ ws), hlc, hc3, ← Nat.add_mul]; exact Nat.mul_le_mul_right _ (by omega)) (by rw [List.length_append, hold]; omega)
                    (fun q hq => by
                      rcases List.mem_append.1 hq with hq | hq
                      · exact hcc.one q hq
                      · exact hc4 q hq) (fun o _ => by simp) hallrows
                    (fun i r j g q a1 a2 a3 => by
                      have hj0 : j < P.cellsOf e := by rw [← (hallrows r (List.mem_of_getElem? a1)).1]; exact (List.getElem?_eq_some_iff.1 a2).1
                      have hi0 : i < len + ys.length := by have := (List.getElem?_eq_some_iff.1 a1).1; rw [List.length_append, hold] at this; exact this
                      rw [List.getElem?_append_left (by rw [hlc]; exact mul_lt hi0 hj0)] at a3
                      exact (hcc.rep i r j g q a1 a2 a3).keep0 ((hallrows r (List.mem_of_getElem? a1)).2 g (List.mem_of_getElem? a2)) ⟨Nat.le_refl _, fun _ _ _ => rfl, fun _ vs _ fz h => ⟨vs, fz, h, rfl⟩⟩ (fun B _ hn => hn))
                  refine ⟨_, _, C2, hc2, hI2, ?_, fun _ h1 _ => ?_⟩
                  · have := Rep.own (C := C2) (w := w.drew.alloc (.cells ⟨us ++ ws ++ rest⟩ e)) kk 0 (len + ys.length) _ 0 (P.cellsOf e) c ⟨w.drew.heap.size, 0, none⟩ hk2 (by omega) ⟨fun _ => by simp, rfl, rfl⟩ (by omega)
                    simpa using this
                  · rw [h1] at hk2
                    have := Rep.ownt (C := C2) (w := w.drew.alloc (.cells ⟨us ++ ws ++ rest⟩ e)) kk (len + ys.length) e _ c _ (0, 0) hk2 hc1 (heap_alloc_new w.drew _)
                    simpa using this
        split at h
        · cases hs; obtain ⟨hfit, h⟩ := h; obtain ⟨z, w', C2, r1, r2, r3, _⟩ := onto _ rfl hfit; exact ⟨z, w', r1, C2, _, _, h, r2, r3⟩
        · cases hs; obtain ⟨hfit, h⟩ := h; obtain ⟨z, w', C2, r1, r2, r3, _⟩ := onto _ rfl hfit; exact ⟨z, w', r1, C2, _, _, h, r2, r3⟩
        · -- onto a row
          rename_i kk off len _
          split at h
          · rename_i xs hxs
            obtain ⟨hc, h⟩ := h
            obtain ⟨z, w', C2, r1, r2, r3, _⟩ := onRow kk off len xs hxs hc hs
            exact ⟨z, w', r1, C2, _, _, h, r2, r3⟩
          · exact h.elim
        · -- onto a row whose cells are all known, where there is room
          rename_i kk off len N _
          split at h
          · rename_i xs hxs
            obtain ⟨⟨c1, c2, c3, c4⟩, h⟩ := h
            cases hs with
            | ownf _ _ _ B s0 sz _ A hr ho hA hn0 =>
              rcases hi.mem.row2 (rowsOf hxs) (fun km => km.np hr hn0) with ⟨k1, rfl⟩ | ⟨B', s', sz', n', vs, T, fz, k1, k2, k3, k4, k5, k6, k6b, k7, k8⟩
              · simp at c2
              · rw [hr] at k1; cases k1
                obtain rfl := hA.1 (by omega)
                have hsz : sz = P.cellsOf e := by
                  have hx0 : xs[0]? = some (xs[0]'(by omega)) := List.getElem?_eq_getElem (by omega)
                  rw [← (k7 _ (List.mem_of_getElem? hx0)).1]; exact c4 _ (List.mem_of_getElem? hx0)
                subst hsz
                have hlw := hcw.len
                have hspace : s0 + off * P.cellsOf e + len * P.cellsOf e + ws.length ≤ vs.length := by
                  have : (off + len + ys.length) * P.cellsOf e ≤ N * P.cellsOf e := Nat.mul_le_mul_right _ (by omega)
                  rw [Nat.add_mul, Nat.add_mul] at this
                  omega
                obtain ⟨w', hrun, hon⟩ := run_core_room (P := P) (e := e) (o := s0 + off * P.cellsOf e) (len := len) (cap := N - off) (n := ys.length) k3 (fun o ho => k6 o (.inl ho)) (by omega) (hws w rfl) hcw.one hspace
                refine ⟨_, w', by rw [append_core ht0 ht1 hu hX q1 hp hb hlen c3]; exact hrun, C, _, _, h, ?_, .ownf kk off (len + ys.length) B s0 (P.cellsOf e) N _ hr (by omega) ⟨fun _ => rfl, rfl, rfl⟩ hn0⟩
                exact hi.blitRow (rowsOf hxs) hr k4 k5 k6 k6b k7 k8 hcw c1 (by rw [Nat.add_mul, ← Nat.add_assoc]; exact hon)
          · exact h.elim
        · -- onto nothing, of a known type
          cases h1 : Nat.beq (P.cellsOf e) 1 with
          | false => rw [h1] at h; exact h.elim
          | true =>
            rw [h1] at h
            obtain ⟨hfit, h⟩ := h
            cases hs
            obtain ⟨z, w', C2, r1, r2, _, r3⟩ := onto _ rfl hfit
            exact ⟨z, w', r1, C2, _, _, h, r2, r3 rfl (Nat.eq_of_beq_eq_true h1)⟩
        · rename_i kk len T _
          cases h1 : Nat.beq T e && Nat.beq (P.cellsOf e) 1 with
          | false => rw [h1] at h; exact h.elim
          | true =>
            rw [h1] at h
            simp only [Bool.and_eq_true] at h1
            obtain rfl := Nat.eq_of_beq_eq_true h1.1
            have h2 := Nat.eq_of_beq_eq_true h1.2
            simp only [cond_true] at h
            split at h
            · rename_i xs hxs
              obtain ⟨hc, h⟩ := h
              have ho : Rep C w (.own kk 0 len) u ∧ ((u = .slice none 0 0 ∧ C.row kk = some none) ∨ ∃ (B n : Nat) (vs : Array Value) (fz : Nat × Nat), C.row kk = some (some (B, 0, 1, n)) ∧ w.heap[B]? = some (.cells vs T fz)) := by
                cases hs with
                | ownt _ _ _ B n vs fz hr ho ht =>
                  have hn0 : 0 < n := by
                    rcases hi.mem.row2 (rowsOf hxs) (fun km => km.nT hr ht) with ⟨q1, _⟩ | ⟨_, _, _, _, _, _, _, q1, _, _, _, q2, _⟩
                    · rw [hr] at q1; cases q1
                    · rw [hr] at q1; cases q1; omega
                  exact ⟨by have := Rep.own (C := C) (w := w) kk 0 len B 0 1 n ⟨B, 0, none⟩ hr (by omega) ⟨fun _ => by simp, rfl, rfl⟩ hn0; simpa using this, .inr ⟨B, n, vs, fz, hr, ht⟩⟩
                | owntnil _ _ hr => exact ⟨.ownnil kk none hr, .inl ⟨rfl, hr⟩⟩
              obtain ⟨z, w', C2, r1, r2, _, r3⟩ := onRow kk 0 len xs hxs hc ho.1
              exact ⟨z, w', r1, C2, _, _, h, r2, r3 rfl h2 ho.2⟩
            · exact h.elim
        · exact h.elim
  · exact h.elim
end
end Go.Proofs.YtijohhdgecadnaaDoor.Av
namespace Go.Proofs.YtijohhdgecadnaaDoor.Av
open Go Go.RowKit
set_option linter.unusedVariables false
set_option linter.unusedSimpArgs false

def hasBody (P : Program) (f : FuncId) : Bool :=
  match P.funcs[f]? with
  | some fn => fn.name != "runtime.NumGoroutine" && fn.body.isSome
  | none => false

structure Ends (C : Cx) (t0 : Nat → Prop) (w : World) (C' : Cx) (w' : World) : Prop where
  box : ∀ b B, C.box b = some B → C'.box b = some B
  fr : Fr t0 w w'
  ex : ∀ B, C.ex B → C'.ex B
  exn : ∀ B, C'.ex B → C.ex B ∨ w.heap.size ≤ B
  tb : ∀ b B, C'.box b = some B → t0 B ∨ w.heap.size ≤ B
  tr : ∀ k B s sz n, C'.row k = some (some (B, s, sz, n)) → t0 B ∨ w.heap.size ≤ B

/-- What a call of f comes to: of arguments, own variables handed by place, and own rows; R tells the result, the variables' cells and the rows behind it. -/
def Fun (P : Program) (f : FuncId) (args : List G) (bs : List (List G)) (rs : List (List (List G))) (R : G → List (Option (List G)) → List (Option (List (List G))) → Prop) : Prop :=
  hasBody P f = true ∧ ∀ (C : Cx) (w : World) (t0 : Nat → Prop) (vs : List Value), vs.length = args.length → (∀ (i : Nat) g v, args[i]? = some g → vs[i]? = some v → Rep C w g v) →
    Mem C w (bs.map some) (rs.map some) → (∀ B, t0 B → C.ex B) → (∀ b B, C.box b = some B → t0 B) → (∀ k B s sz n, C.row k = some (some (B, s, sz, n)) → t0 B) → Fixed w C.ex →
    Calls P f ⟨vs⟩ w fun e w' => ∃ v C' g bs' rs', e = .returned v ∧ R g bs' rs' ∧ Rep C' w' g v ∧ Mem C' w' bs' rs' ∧ Ends C t0 w C' w'

/-- A value that names nothing of the call's own, in its parts too. -/
def G.closedR : G → Bool
  | .tup gs => gs.all G.closed
  | g => g.closed
/-- A value without slices. -/
def G.flat0 : G → Bool
  | .int .. | .bool _ | .str _ | .lit _ => true
  | _ => false
def G.flatR : G → Bool
  | .agg gs => gs.all G.flat0
  | .tup gs => gs.all fun | .agg hs => hs.all G.flat0 | g => g.flat0
  | g => g.flat0

/-- A call by values: its result. -/
def Fv (P : Program) (f : FuncId) (args : List G) (g : G) : Prop := Fun P f args [] [] fun g' bs' rs' => g' = g ∧ bs' = [] ∧ rs' = []

theorem Rep.closed {C C' : Cx} {w w' : World} {g : G} {v : Value} (h : Rep C w g v) (hg : g.closed = true) (hk : Keeps C.ex w w') (hx : ∀ B, B < w.heap.size → ¬ C.ex B → ¬ C'.ex B) : Rep C' w' g v := by
  have keyE : ∀ row off v, Rep C w (.elt row off) v → Rep C' w' (.elt row off) v := fun row off v h => by
    cases h with
    | elt _ _ B o f hlt hex hcl hcell h => exact .elt row off B o f (Nat.lt_of_lt_of_le hlt hk.size) (hx B hlt hex) hcl (fun j g hj => by rw [hk.cell (a := ⟨B, o + j, none⟩) hlt hex]; exact hcell j g hj) (fun j g hj => (h j g hj).keep0 (hcl g (List.mem_of_getElem? hj)) hk hx)
  have key1 : ∀ g v, Rep C w g v → g.closed1 = true → Rep C' w' g v := fun g v h hg => by
    by_cases h0 : g.closed0 = true
    · exact h.keep0 h0 hk hx
    · cases h with
      | elt row off B o f a1 a2 a3 a4 a5 => exact keyE _ _ _ (.elt row off B o f a1 a2 a3 a4 a5)
      | agg gs vs hl hc hv h =>
        simp only [G.closed1, List.all_eq_true] at hg
        exact .agg gs vs hl hc hv (fun i g v h1 h2 => (h i g v h1 h2).keep0 (hg g (List.mem_of_getElem? h1)) hk hx)
      | _ => simp_all [G.closed1, G.closed0]
  by_cases h0 : g.closed0 = true
  · exact h.keep0 h0 hk hx
  · cases h with
    | elt row off B o f a1 a2 a3 a4 a5 => exact keyE _ _ _ (.elt row off B o f a1 a2 a3 a4 a5)
    | agg gs vs hl hc hv h =>
      simp only [G.closed, List.all_eq_true] at hg
      exact .agg gs vs hl hc hv (fun i g v h1 h2 => (h i g v h1 h2).keep0 (hg g (List.mem_of_getElem? h1)) hk hx)
    | fn f caps vs hl h =>
      simp only [G.closed, List.all_eq_true] at hg
      exact .fn f caps vs hl (fun i g v h1 h2 => key1 g v (h i g v h1 h2) (hg g (List.mem_of_getElem? h1)))
    | _ => simp_all [G.closed, G.closed0]
theorem Rep.closedR {C C' : Cx} {w w' : World} {g : G} {v : Value} (h : Rep C w g v) (hg : g.closedR = true) (hk : Keeps C.ex w w') (hx : ∀ B, B < w.heap.size → ¬ C.ex B → ¬ C'.ex B) : Rep C' w' g v := by
  by_cases h0 : g.closed = true
  · exact h.closed h0 hk hx
  · cases h with
    | tup gs vs hl h =>
      simp only [G.closedR, List.all_eq_true] at hg
      exact .tup gs vs hl (fun i g v h1 h2 => (h i g v h1 h2).closed (hg g (List.mem_of_getElem? h1)) hk hx)
    | _ => simp_all [G.closedR]

theorem mem0 (w : World) (ex : Nat → Prop) (h : ∀ B, ex B → B < w.heap.size) : Mem { box := fun _ => none, row := fun _ => none, ex := ex } w [] [] :=
  ⟨fun b cs hb => by simp at hb, fun k xs hk => by simp at hk, fun _ _ h => (by cases h), fun _ _ h => (by cases h), fun _ _ _ h => (by cases h), fun _ _ _ _ _ _ _ _ _ h => (by cases h), fun _ _ _ _ _ _ h => (by cases h), h⟩
end Go.Proofs.YtijohhdgecadnaaDoor.Av
namespace Go.Proofs.YtijohhdgecadnaaDoor.Av
open Go Go.RowKit
set_option linter.unusedVariables false
set_option linter.unusedSimpArgs false

universe v
/-! Which own things a value names; other names for them. -/
def refB0 : G → List Nat
  | .ptr b _ => [b]
  | .ptrt b _ _ => [b]
  | _ => []
def refB1 : G → List Nat
  | .agg gs => gs.flatMap refB0
  | g => refB0 g
def refB : G → List Nat
  | .fn _ caps => caps.flatMap refB1
  | .tup gs => gs.flatMap refB1
  | g => refB1 g
def refR0 : G → List Nat
  | .own k _ _ => [k]
  | .eltw k _ _ => [k]
  | .dat k => [k]
  | .ownt k _ _ => [k]
  | .datt k _ => [k]
  | .mp k _ _ => [k]
  | .ownf k _ _ _ => [k]
  | _ => []
def refR1 : G → List Nat
  | .agg gs => gs.flatMap refR0
  | g => refR0 g
def refR : G → List Nat
  | .fn _ caps => caps.flatMap refR1
  | .tup gs => gs.flatMap refR1
  | g => refR1 g
def ren0 (f r : Nat → Option Nat) : G → G
  | .ptr b o => match f b with | some i => .ptr i o | none => .dead
  | .own k o l => match r k with | some i => .own i o l | none => .dead
  | .eltw k i o => match r k with | some j => .eltw j i o | none => .dead
  | .dat k => match r k with | some j => .dat j | none => .dead
  | .ptrt b T n => match f b with | some i => .ptrt i T n | none => .dead
  | .ownt k l T => match r k with | some i => .ownt i l T | none => .dead
  | .datt k T => match r k with | some j => .datt j T | none => .dead
  | .mp k n q => match r k with | some j => .mp j n q | none => .dead
  | .ownf k o l N => match r k with | some j => .ownf j o l N | none => .dead
  | .fn g [] => .fn g []
  | .fn .. => .dead
  | .meth .. => .dead
  | g => g
def ren1 (f r : Nat → Option Nat) : G → G
  | .agg gs => .agg (gs.map (ren0 f r))
  | .tup _ => .junk
  | g => ren0 f r g
def ren (f r : Nat → Option Nat) : G → G
  | .fn g caps => .fn g (caps.map (ren1 f r))
  | .tup gs => .tup (gs.map (ren1 f r))
  | g => ren1 f r g

/-- The names f and r lead from C to C'. -/
structure Leads (C C' : Cx) (w w' : World) (f r : Nat → Option Nat) : Prop where
  box : ∀ b i B, f b = some i → C.box b = some B → C'.box i = some B
  row : ∀ k i q, r k = some i → C.row k = some q → C'.row i = some q
  keeps : Keeps C.ex w w'
  ex : ∀ B, B < w.heap.size → ¬ C.ex B → ¬ C'.ex B

theorem closed0_ren0 {g : G} (h : g.closed0 = true) (f r : Nat → Option Nat) : ren0 f r g = g := by cases g <;> simp_all [G.closed0, ren0]
theorem cell_ren0 {g : G} (h : g.cell = true) (f r : Nat → Option Nat) : (ren0 f r g).cell = true := by
  cases g with
  | fn _ caps => cases caps <;> rfl
  | ptr b o => show G.cell (match f b with | some i => _ | none => _) = true; split <;> rfl
  | own k o l => show G.cell (match r k with | some i => _ | none => _) = true; split <;> rfl
  | eltw k i o => show G.cell (match r k with | some i => _ | none => _) = true; split <;> rfl
  | dat k => show G.cell (match r k with | some i => _ | none => _) = true; split <;> rfl
  | ptrt b T n => show G.cell (match f b with | some i => _ | none => _) = true; split <;> rfl
  | ownt k l T => show G.cell (match r k with | some i => _ | none => _) = true; split <;> rfl
  | datt k T => show G.cell (match r k with | some i => _ | none => _) = true; split <;> rfl
  | mp k n q => show G.cell (match r k with | some i => _ | none => _) = true; split <;> rfl
  | ownf k o l N => show G.cell (match r k with | some i => _ | none => _) = true; split <;> rfl
  | _ => first | rfl | (simp [G.cell] at h; done)
theorem Rep.ren0 {C C' : Cx} {w w' : World} {f r : Nat → Option Nat} (hl : Leads C C' w w' f r) {g : G} {v : Value} (h : Rep C w g v) (hc : g.cell = true) : Rep C' w' (ren0 f r g) v := by
  have h1 := h.oneCell hc
  by_cases h0 : g.closed0 = true
  · rw [closed0_ren0 h0]; exact h.keep0 h0 hl.keeps hl.ex
  · cases h with
    | fn g caps vs hlen hr =>
      cases caps with
      | nil => exact .fn g [] vs hlen (fun i g v hg => by simp at hg)
      | cons _ _ => exact .dead _ rfl
    | meth f gs vs hl hr => exact .dead _ rfl
    | nilt => exact .nilt
    | ptrt b T n B vs fz hb ht hn =>
      show Rep _ _ (match f b with | some i => _ | none => _) _
      split
      · rename_i i e
        obtain ⟨vs', fz', h', hs⟩ := hl.keeps.ty _ _ _ _ ht
        exact .ptrt i T n B vs' fz' (hl.box _ _ _ e hb) h' (hs.trans hn)
      · exact .dead _ rfl
    | ownt k len T B n vs fz hr ho ht =>
      show Rep _ _ (match r k with | some i => _ | none => _) _
      split
      · rename_i i e
        obtain ⟨vs', fz', h', hs⟩ := hl.keeps.ty _ _ _ _ ht
        exact .ownt i len T B n vs' fz' (hl.row _ _ _ e hr) ho h'
      · exact .dead _ rfl
    | owntnil k T hr =>
      show Rep _ _ (match r k with | some i => _ | none => _) _
      split
      · rename_i i e; exact .owntnil i T (hl.row _ _ _ e hr)
      · exact .dead _ rfl
    | datt k T B n vs fz hr ht =>
      show Rep _ _ (match r k with | some i => _ | none => _) _
      split
      · rename_i i e
        obtain ⟨vs', fz', h', hs⟩ := hl.keeps.ty _ _ _ _ ht
        exact .datt i T B n vs' fz' (hl.row _ _ _ e hr) h'
      · exact .dead _ rfl
    | dattnil k T hr =>
      show Rep _ _ (match r k with | some i => _ | none => _) _
      split
      · rename_i i e; exact .dattnil i T (hl.row _ _ _ e hr)
      · exact .dead _ rfl
    | ownf k off len B s sz n a hr ho ha hn0 =>
      show Rep _ _ (match r k with | some i => _ | none => _) _
      split
      · rename_i i e; exact .ownf i off len B s sz n a (hl.row _ _ _ e hr) ho ha hn0
      · exact .dead _ rfl
    | mp k kn fl B hr =>
      show Rep _ _ (match r k with | some i => _ | none => _) _
      split
      · rename_i i e; exact .mp i kn fl B (hl.row _ _ _ e hr)
      · exact .dead _ rfl
    | own k off len B s sz n a hr ho ha hn0 =>
      show Rep _ _ (match r k with | some i => _ | none => _) _
      split
      · rename_i i e; exact .own i off len B s sz n a (hl.row _ _ _ e hr) ho ha hn0
      · exact .dead _ rfl
    | ownnil k A hr =>
      show Rep _ _ (match r k with | some i => _ | none => _) _
      split
      · rename_i i e; exact .ownnil i A (hl.row _ _ _ e hr)
      · exact .dead _ rfl
    | ptr b off B hb =>
      show Rep _ _ (match f b with | some i => _ | none => _) _
      split
      · rename_i i e; exact .ptr i off B (hl.box _ _ _ e hb)
      · exact .dead _ rfl
    | elt row off B o q hlt hex hcl hcell h =>
      exact .elt row off B o q (Nat.lt_of_lt_of_le hlt hl.keeps.size) (hl.ex _ hlt hex) hcl (fun j g hg => by rw [hl.keeps.cell (a := ⟨B, o + j, none⟩) hlt hex]; exact hcell j g hg) (fun j g hg => (h j g hg).keep0 (hcl g (List.mem_of_getElem? hg)) hl.keeps hl.ex)
    | eltw k i off B s sz n hr hn0 =>
      show Rep _ _ (match r k with | some i => _ | none => _) _
      split
      · rename_i i e; exact .eltw i _ off B s sz n (hl.row _ _ _ e hr) hn0
      · exact .dead _ rfl
    | dat k B s sz n hn hr =>
      show Rep _ _ (match r k with | some i => _ | none => _) _
      split
      · rename_i i e; exact .dat i B s sz n hn (hl.row _ _ _ e hr)
      · exact .dead _ rfl
    | datnil k p hr =>
      show Rep _ _ (match r k with | some i => _ | none => _) _
      split
      · rename_i i e; exact .datnil i p (hl.row _ _ _ e hr)
      · exact .dead _ rfl
    | dead v h => exact .dead _ h
    | _ => simp_all [G.closed0, G.cell]
theorem Rep.ren1 {C C' : Cx} {w w' : World} {f r : Nat → Option Nat} (hl : Leads C C' w w' f r) {g : G} {v : Value} (h : Rep C w g v) : Rep C' w' (ren1 f r g) v := by
  by_cases hcc : g.cell = true
  · have e : Av.ren1 f r g = Av.ren0 f r g := by cases g <;> first | rfl | (simp [G.cell] at hcc; done)
    rw [e]; exact h.ren0 hl hcc
  · cases h with
    | agg gs vs hlen hc hv h =>
      refine .agg _ vs (by simp [hlen]) (fun g hg => ?_) hv (fun i g v hg hv' => ?_)
      · obtain ⟨x, hx, rfl⟩ := List.mem_map.1 hg; exact cell_ren0 (hc x hx) f r
      · rw [List.getElem?_map] at hg
        obtain ⟨x, hx, rfl⟩ := Option.map_eq_some_iff.1 hg
        exact (h i x v hx hv').ren0 hl (hc x (List.mem_of_getElem? hx))
    | tup => exact .junk _
    | junk => exact .junk _
    | und => exact .und
    | _ => simp_all [G.cell]
theorem Rep.ren {C C' : Cx} {w w' : World} {f r : Nat → Option Nat} (hl : Leads C C' w w' f r) {g : G} {v : Value} (h : Rep C w g v) : Rep C' w' (ren f r g) v := by
  by_cases hf : ∃ f caps, g = .fn f caps
  · obtain ⟨q, caps, rfl⟩ := hf
    cases h with
    | fn _ _ vs hlen h =>
      refine .fn q _ vs (by simp [hlen]) (fun i g v hg hv => ?_)
      rw [List.getElem?_map] at hg
      obtain ⟨x, hx, rfl⟩ := Option.map_eq_some_iff.1 hg
      exact (h i x v hx hv).ren1 hl
  · by_cases ht : ∃ gs, g = .tup gs
    · obtain ⟨gs, rfl⟩ := ht
      cases h with
      | tup _ vs hlen h =>
        refine .tup _ vs (by simp [hlen]) (fun i g v hg hv => ?_)
        rw [List.getElem?_map] at hg
        obtain ⟨x, hx, rfl⟩ := Option.map_eq_some_iff.1 hg
        exact (h i x v hx hv).ren1 hl
    · have e : Av.ren f r g = Av.ren1 f r g := by cases g <;> first | rfl | exact absurd ⟨_, _, rfl⟩ hf | exact absurd ⟨_, rfl⟩ ht
      rw [e]; exact h.ren1 hl

/-! Lists of names. -/
def pos (l : List Nat) (b : Nat) : Option Nat := go l 0
where
  go : List Nat → Nat → Option Nat
  | [], _ => none
  | x :: xs, i => bif Nat.beq x b then some i else go xs (i + 1)
theorem pos_go {b : Nat} : ∀ (l : List Nat) (i j : Nat), pos.go b l i = some j → ∃ n, j = i + n ∧ l[n]? = some b
  | [], i, j, h => by simp [pos.go] at h
  | x :: xs, i, j, h => by
    unfold pos.go at h
    cases hb : Nat.beq x b with
    | true => rw [hb] at h; simp at h; subst h; exact ⟨0, rfl, by simp [Nat.eq_of_beq_eq_true hb]⟩
    | false =>
      rw [hb] at h
      obtain ⟨n, rfl, hn⟩ := pos_go xs (i + 1) j h
      exact ⟨n + 1, by omega, by simpa using hn⟩
theorem pos_some {l : List Nat} {b j : Nat} (h : pos l b = some j) : l[j]? = some b := by
  obtain ⟨n, rfl, hn⟩ := pos_go l 0 j h
  simpa using hn
theorem pos_go_none {b : Nat} : ∀ (l : List Nat) (i : Nat), pos.go b l i = none → b ∉ l
  | [], i, h => by simp
  | x :: xs, i, h => by
    unfold pos.go at h
    cases hb : Nat.beq x b with
    | true => rw [hb] at h; simp at h
    | false =>
      rw [hb] at h
      have := pos_go_none xs (i + 1) h
      have := Nat.ne_of_beq_eq_false hb
      simp; exact ⟨fun e => this e.symm, by assumption⟩
theorem pos_none {l : List Nat} {b : Nat} (h : pos l b = none) : b ∉ l := pos_go_none l 0 h
theorem pos_at {l : List Nat} (hn : l.Nodup) {b j : Nat} (h : l[j]? = some b) : pos l b = some j := by
  cases hp : pos l b with
  | none => exact absurd (List.mem_of_getElem? h) (pos_none hp)
  | some i =>
    have hi := pos_some hp
    have h1 := (List.getElem?_eq_some_iff.1 hi)
    have h2 := (List.getElem?_eq_some_iff.1 h)
    rw [(List.getElem?_inj h1.1 hn).1 (hi.trans h.symm)]
def distinct : List Nat → Bool
  | [] => true
  | x :: xs => !(xs.any (Nat.beq x)) && distinct xs
theorem distinct_nodup : ∀ {l : List Nat}, distinct l = true → l.Nodup
  | [], _ => List.nodup_nil
  | x :: xs, h => by
    simp only [distinct, Bool.and_eq_true, Bool.not_eq_true', List.any_eq_false] at h
    refine List.nodup_cons.2 ⟨fun hm => ?_, distinct_nodup h.2⟩
    have := h.1 x hm
    simp at this
/-- (Lists worked out ahead.) -/
noncomputable def fI {β : Sort v} (l : List Nat) : (List Nat → β) → β := List.rec (motive := fun _ => (List Nat → β) → β) (fun k => k []) (fun n _ ih k => fN n fun n => ih fun ns => k (n :: ns)) l
theorem fI_eq {β : Sort v} : ∀ (l : List Nat) (k : List Nat → β), fI l k = k l
  | [], k => rfl
  | n :: ns, k => by show fN n (fun n => fI ns fun ns => k (n :: ns)) = _; rw [fN_eq, fI_eq ns]
noncomputable def addNew (l : List Nat) (bs : List Nat) : List Nat := List.rec (motive := fun _ => List Nat → List Nat) (fun l => l) (fun b _ ih l => fI (bif l.any (Nat.beq b) then l else l ++ [b]) fun l' => ih l') bs l
theorem addNew_nil (l : List Nat) : addNew l [] = l := rfl
theorem addNew_cons (l : List Nat) (b : Nat) (bs : List Nat) : addNew l (b :: bs) = addNew (bif l.any (Nat.beq b) then l else l ++ [b]) bs := by
  show fI _ (fun l' => addNew l' bs) = _
  rw [fI_eq]
/-- A list's element, by recursors. -/
noncomputable def gD {α : Type} (d : α) (l : List α) : Nat → α := List.rec (motive := fun _ => Nat → α) (fun _ => d) (fun x _ ih n => Nat.rec (motive := fun _ => α) x (fun m _ => ih m) n) l
theorem gD_eq {α : Type} (d : α) : ∀ (l : List α) (n : Nat), gD d l n = l.getD n d
  | [], n => by show d = _; simp
  | x :: xs, 0 => by show x = _; simp
  | x :: xs, n + 1 => by show gD d xs n = _; rw [gD_eq d xs n]; simp
def setMany {α : Type} : List α → List (Nat × α) → List α
  | l, [] => l
  | l, (i, x) :: r => setMany (l.set i x) r
theorem setMany_length {α : Type} : ∀ (ps : List (Nat × α)) (l : List α), (setMany l ps).length = l.length
  | [], l => rfl
  | (i, x) :: r, l => by rw [setMany, setMany_length r]; simp
theorem setMany_out {α : Type} : ∀ (ps : List (Nat × α)) (l : List α) (j : Nat), (∀ p ∈ ps, p.1 ≠ j) → (setMany l ps)[j]? = l[j]?
  | [], l, j, h => rfl
  | (i, x) :: r, l, j, h => by
    rw [setMany, setMany_out r _ j (fun p hp => h p (by simp [hp])), List.getElem?_set_ne (h (i, x) (by simp))]
theorem setMany_in {α : Type} : ∀ (ids : List Nat) (xs : List α) (l : List α) (n j : Nat) (x : α), ids.Nodup → ids[n]? = some j → xs[n]? = some x → j < l.length → (setMany l (ids.zip xs))[j]? = some x
  | [], xs, l, n, j, x, hn, h1, h2, hl => by simp at h1
  | i :: ids, [], l, n, j, x, hn, h1, h2, hl => by simp at h2
  | i :: ids, y :: xs, l, n, j, x, hn, h1, h2, hl => by
    rw [List.zip_cons_cons, setMany]
    cases n with
    | zero =>
      simp at h1 h2; subst h1; subst h2
      rw [setMany_out _ _ _ (fun p hp e => (List.nodup_cons.1 hn).1 (by
        have := (List.of_mem_zip (a := p.1) (b := p.2) hp).1; rw [← e]; exact this)), List.getElem?_set_self hl]
    | succ n => exact setMany_in ids xs _ n j x (List.nodup_cons.1 hn).2 (by simpa using h1) (by simpa using h2) (by simpa using hl)

/-! The rule of a call that is handed places. -/
noncomputable def cellsB (st : St) (b : Nat) : List G := Option.rec (motive := fun _ => List G) [] (fun cs => cs) (gD none st.boxes b)
theorem cellsB_eq (st : St) (b : Nat) : cellsB st b = (st.boxes.getD b none).getD [] := by unfold cellsB; rw [gD_eq]; cases st.boxes.getD b none <;> rfl
noncomputable def seenB (st : St) (gs : List G) : List Nat :=
  fI (addNew [] (gs.flatMap refB)) fun b0 => fI (addNew b0 (b0.flatMap fun b => (cellsB st b).flatMap refB0)) fun b1 => addNew b1 (b1.flatMap fun b => (cellsB st b).flatMap refB0)
noncomputable def seenR (st : St) (gs : List G) (bs : List Nat) : List Nat := addNew [] (gs.flatMap refR ++ bs.flatMap fun b => (cellsB st b).flatMap refR0)
/-- The names that a call's new things get: the first that of the operation, the others spare ones. -/
def newIds (d N : Nat) : Nat → List Nat
  | 0 => []
  | n + 1 => d :: (List.range n).map (N + ·)
/-- A call's contract by places: what it answers, and what the variables and rows hold behind it. -/
def Fp (P : Program) (f : FuncId) (args : List G) (bs : List (List G)) (rs : List (List (List G))) (q : G × List (Option (List G)) × List (Option (List (List G)))) : Prop :=
  Fun P f args bs rs fun g bs' rs' => g = q.1 ∧ bs' = q.2.1 ∧ rs' = q.2.2
def idsOf (B : List Nat) (d N n : Nat) : List Nat := B ++ newIds d N (n - B.length)
def backOk (ids rids B R : List Nat) (st : St) (q : G × List (Option (List G)) × List (Option (List (List G)))) : Bool :=
  distinct ids && distinct rids && ids.all (fun b => Nat.blt b st.boxes.length) && rids.all (fun b => Nat.blt b st.rows.length) && Nat.beq ids.length q.2.1.length && Nat.beq rids.length q.2.2.length &&
      (ids.drop B.length).all (fun b => (st.boxes.getD b none).isNone) && (rids.drop R.length).all (fun b => (st.rows.getD b none).isNone)
def backSt (ids rids R : List Nat) (st : St) (q : G × List (Option (List G)) × List (Option (List (List G)))) : St :=
  let st1 := R.foldl (fun s k => s.killR k) st
  ⟨st1.slots, setMany st1.boxes (ids.zip (q.2.1.map fun o => o.map fun cs => cs.map (ren0 (fun i => ids[i]?) (fun i => rids[i]?)))), setMany st1.rows (rids.zip q.2.2)⟩
def backP (d : Nat) (B R : List Nat) (st : St) (q : G × List (Option (List G)) × List (Option (List (List G)))) (k : G → St → Prop) : Prop :=
  bif backOk (idsOf B d st.slots.length q.2.1.length) (idsOf R d st.slots.length q.2.2.length) B R st q then
    (backSt (idsOf B d st.slots.length q.2.1.length) (idsOf R d st.slots.length q.2.2.length) R st q).force fun st' => k (ren (fun i => (idsOf B d st.slots.length q.2.1.length)[i]?) (fun i => (idsOf R d st.slots.length q.2.2.length)[i]?) q.1) st'
  else False
noncomputable def fBs {β : Sort v} (l : List (List G)) : (List (List G) → β) → β := List.rec (motive := fun _ => (List (List G) → β) → β) (fun k => k []) (fun o _ ih k => fL o fun o' => ih fun os' => k (o' :: os')) l
theorem fBs_eq {β : Sort v} : ∀ (os : List (List G)) (k : List (List G) → β), fBs os k = k os
  | [], k => rfl
  | o :: os, k => by show fL o (fun o' => fBs os fun os' => k (o' :: os')) = _; rw [fL_eq, fBs_eq os]
def fRs {β : Sort v} : List (List (List G)) → (List (List (List G)) → β) → β
  | [], k => k []
  | o :: os, k => fRs os fun os' => k (o :: os')
theorem fRs_eq {β : Sort v} : ∀ (os : List (List (List G))) (k : List (List (List G)) → β), fRs os k = k os
  | [], k => rfl
  | o :: os, k => by rw [fRs, fRs_eq os]
def placeP (P : Program) (d : Nat) (f : FuncId) (gs : List G) (st : St) (k : G → St → Prop) : Prop :=
  fI (seenB st gs) fun B => fI (seenR st gs B) fun R =>
  bif B.all (fun b => (st.boxes.getD b none).isSome) && R.all (fun k => (st.rows.getD k none).isSome) && distinct B && distinct R then
    fS (gs.map (ren (pos B) (pos R))) fun args => fBs (B.map fun b => (cellsB st b).map (ren0 (pos B) (pos R))) fun bs => fRs (R.map fun k => (st.rows.getD k none).getD []) fun rs =>
      ∃ q, Fp P f args bs rs q ∧ backP d B R st q k
  else False
end Go.Proofs.YtijohhdgecadnaaDoor.Av
namespace Go.Proofs.YtijohhdgecadnaaDoor.Av
open Go Go.RowKit
set_option linter.unusedVariables false
set_option linter.unusedSimpArgs false

section
variable {P : Program} {C : Cx} {F : Fd} {st : St} {a : Act} {w : World}

theorem killRs : ∀ (R : List Nat) (st : St) (C : Cx), Inv C F st a w → ∃ C1, Inv C1 F (R.foldl (fun s k => s.killR k) st) a w ∧ C1.box = C.box ∧ C1.ex = C.ex ∧ (∀ k, k ∉ R → C1.row k = C.row k) ∧ (∀ k ∈ R, C1.row k = none) ∧
    (R.foldl (fun s k => s.killR k) st).boxes.length = st.boxes.length ∧ (R.foldl (fun s k => s.killR k) st).rows.length = st.rows.length ∧ (R.foldl (fun s k => s.killR k) st).slots.length = st.slots.length ∧
    (∀ b : Nat, st.boxes[b]? = some none → (R.foldl (fun s k => s.killR k) st).boxes[b]? = some none)
  | [], st, C, hi => ⟨C, hi, rfl, rfl, fun _ _ => rfl, fun _ h => by simp at h, rfl, rfl, rfl, fun _ h => h⟩
  | k :: R, st, C, hi => by
    obtain ⟨C1, h1, h2, h3, h4, h5, h6, h7, h8, h9⟩ := killRs R (st.killR k) (C.noR k) (hi.killR k)
    have hno : (C.noR k).row k = none := by show (if k = k then none else _) = _; rw [if_pos rfl]
    have hne : ∀ x, x ≠ k → (C.noR k).row x = C.row x := fun x hx => by show (if x = k then none else _) = _; rw [if_neg hx]
    refine ⟨C1, h1, h2, h3, fun x hx => ?_, fun x hx => ?_, ?_, ?_, ?_, fun b hb => ?_⟩
    · simp only [List.mem_cons, not_or] at hx
      rw [h4 x hx.2, hne x hx.1]
    · by_cases hm : x ∈ R
      · exact h5 x hm
      · rcases List.mem_cons.1 hx with e | e
        · subst e; rw [h4 x hm, hno]
        · exact absurd e hm
    · rw [List.foldl_cons, h6]; simp [St.killR]
    · rw [List.foldl_cons, h7]; simp [St.killR]
    · rw [List.foldl_cons, h8]; simp [St.killR]
    · rw [List.foldl_cons]; exact h9 b (by simp [St.killR, hb])

theorem boxes_some {b : Nat} (h : (st.boxes.getD b none).isSome = true) : st.boxes[b]? = some (some (cellsB st b)) := by
  rw [cellsB_eq]
  rw [List.getD_eq_getElem?_getD] at h ⊢
  cases hx : st.boxes[b]? with
  | none => rw [hx] at h; simp at h
  | some o => rw [hx] at h; cases o <;> simp_all
theorem rows_some {k : Nat} (h : (st.rows.getD k none).isSome = true) : st.rows[k]? = some (some ((st.rows.getD k none).getD [])) := by
  rw [List.getD_eq_getElem?_getD] at h ⊢
  cases hx : st.rows[k]? with
  | none => rw [hx] at h; simp at h
  | some o => rw [hx] at h; cases o <;> simp_all

theorem place_sound {d : Nat} {f : FuncId} {gs : List G} {k : G → St → Prop} (h : placeP P d f gs st k) (hi : Inv C F st a w) {vs : List Value} (hl : vs.length = gs.length)
    (hr : ∀ (i : Nat) g v, gs[i]? = some g → vs[i]? = some v → Rep C w g v) : hasBody P f = true ∧ Calls P f ⟨vs⟩ w fun e w' => ∃ v, e = .returned v ∧ After F k a v w' := by
  unfold placeP at h
  rw [fI_eq, fI_eq] at h
  generalize seenB st gs = B at h
  generalize seenR st gs B = R at h
  cases hc : B.all (fun b => (st.boxes.getD b none).isSome) && R.all (fun k => (st.rows.getD k none).isSome) && distinct B && distinct R with
  | false => rw [hc] at h; exact h.elim
  | true =>
  rw [hc] at h
  simp only [Bool.and_eq_true, List.all_eq_true] at hc
  obtain ⟨⟨⟨hB, hR⟩, dB⟩, dR⟩ := hc
  have nB := distinct_nodup dB
  have nR := distinct_nodup dR
  simp only [cond_true, fS_eq, fBs_eq, fRs_eq] at h
  obtain ⟨q, ⟨hb, hF⟩, h⟩ := h
  refine ⟨hb, ?_⟩
  let Cc : Cx := { box := fun i => (B[i]?).bind C.box, row := fun i => (R[i]?).bind C.row, ex := C.ex }
  let t0 : Nat → Prop := fun X => (∃ b ∈ B, C.box b = some X) ∨ ∃ k ∈ R, ∃ s sz n, C.row k = some (some (X, s, sz, n))
  have cbox : ∀ i b, B[i]? = some b → Cc.box i = C.box b := fun i b e => by show (B[i]?).bind _ = _; rw [e]; rfl
  have crow : ∀ i b, R[i]? = some b → Cc.row i = C.row b := fun i b e => by show (R[i]?).bind _ = _; rw [e]; rfl
  have cboxI : ∀ i X, Cc.box i = some X → ∃ b, B[i]? = some b ∧ C.box b = some X := fun i X e => by
    have e' : (B[i]?).bind C.box = some X := e
    cases hx : B[i]? with
    | none => rw [hx] at e'; cases e'
    | some b => rw [hx] at e'; exact ⟨b, rfl, e'⟩
  have crowI : ∀ i X, Cc.row i = some X → ∃ b, R[i]? = some b ∧ C.row b = some X := fun i X e => by
    have e' : (R[i]?).bind C.row = some X := e
    cases hx : R[i]? with
    | none => rw [hx] at e'; cases e'
    | some b => rw [hx] at e'; exact ⟨b, rfl, e'⟩
  have lead : Leads C Cc w w (pos B) (pos R) := ⟨fun b i X e hX => by rw [cbox i b (pos_some e)]; exact hX, fun b i X e hX => by rw [crow i b (pos_some e)]; exact hX, Keeps.refl _ _, fun _ _ h => h⟩
  have hmem : Mem Cc w ((B.map fun b => (cellsB st b).map (ren0 (pos B) (pos R))).map some) ((R.map fun k => (st.rows.getD k none).getD []).map some) := by
    refine ⟨fun i cs hx => ?_, fun i xs hx => ?_, fun i X hX => ?_, fun i X hX => ?_, fun i i' X h1 h2 => ?_, fun i i' X s z n s' z' n' h1 h2 => ?_, fun i j X s z n h1 h2 => ?_, hi.mem.lt⟩
    · simp only [List.getElem?_map, Option.map_eq_some_iff] at hx
      obtain ⟨_, ⟨b, hbi, rfl⟩, e⟩ := hx
      cases e
      obtain ⟨X, us, T, k1, k2, k3, k4, k5, k6⟩ := hi.mem.box b _ (boxes_some (hB b (List.mem_of_getElem? hbi)))
      refine ⟨X, us, T, by rw [cbox i b hbi]; exact k1, k2, k3, by simp [k4], k5, fun j g v hg hv => ?_⟩
      rw [List.getElem?_map] at hg
      obtain ⟨g0, hg0, rfl⟩ := Option.map_eq_some_iff.1 hg
      obtain ⟨q1, q2⟩ := k6 j g0 v hg0 hv
      exact ⟨cell_ren0 q1 _ _, q2.ren0 lead q1⟩
    · simp only [List.getElem?_map, Option.map_eq_some_iff] at hx
      obtain ⟨_, ⟨b, hbi, rfl⟩, e⟩ := hx
      cases e
      rcases hi.mem.row b _ (rows_some (hR b (List.mem_of_getElem? hbi))) with k1 | ⟨X, s, z, n, us, T, fz, k1, k2, k3, k4, k5, k6, k6b, k7, k8⟩ | km
      rotate_left 2
      · exact .inr (.inr (km.move (fun q h => by rw [crow i b hbi]; exact h) (fun _ _ _ h => h) (fun _ _ _ => rfl) (fun g u hg hu => hu.keep0 hg (Keeps.refl _ _) (fun _ _ h => h))))
      · exact .inl ⟨by rw [crow i b hbi]; exact k1.1, k1.2⟩
      · exact .inr <| .inl ⟨X, s, z, n, us, T, fz, by rw [crow i b hbi]; exact k1, k2, k3, k4, k5, k6, k6b, k7, fun i r j g v a1 a2 a3 => (k8 i r j g v a1 a2 a3).keep0 ((k7 r (List.mem_of_getElem? a1)).2 g (List.mem_of_getElem? a2)) (Keeps.refl _ _) (fun _ _ h => h)⟩
    · obtain ⟨b, hbi, _⟩ := cboxI i X hX
      exact ⟨_, by simp only [List.getElem?_map, hbi, Option.map_some]; rfl⟩
    · obtain ⟨b, hbi, _⟩ := crowI i X hX
      exact ⟨_, by simp only [List.getElem?_map, hbi, Option.map_some]; rfl⟩
    · obtain ⟨b, hbi, e1⟩ := cboxI i X h1
      obtain ⟨b', hbi', e2⟩ := cboxI i' X h2
      have := hi.mem.bb b b' X e1 e2
      subst this
      exact (List.getElem?_inj (List.getElem?_eq_some_iff.1 hbi).1 nB).1 (hbi.trans hbi'.symm)
    · obtain ⟨b, hbi, e1⟩ := crowI i _ h1
      obtain ⟨b', hbi', e2⟩ := crowI i' _ h2
      have := hi.mem.rr b b' X s z n s' z' n' e1 e2
      subst this
      exact (List.getElem?_inj (List.getElem?_eq_some_iff.1 hbi).1 nR).1 (hbi.trans hbi'.symm)
    · obtain ⟨b, hbi, e1⟩ := cboxI i X h1
      obtain ⟨b', hbi', e2⟩ := crowI j _ h2
      exact hi.mem.br b b' X s z n e1 e2
  have t0ex : ∀ X, t0 X → C.ex X := fun X hX => by
    rcases hX with ⟨b, _, e⟩ | ⟨k', _, s, z, n, e⟩
    · exact hi.mem.ltB e
    · exact hi.mem.ltR e
  have t0F : ∀ X, t0 X → F.t0 X ∨ F.w0.heap.size ≤ X := fun X hX => by
    rcases hX with ⟨b, _, e⟩ | ⟨k', _, s, z, n, e⟩
    · exact hi.tb b X e
    · exact hi.tr k' X s z n e
  refine (hF Cc w t0 vs (by simp [hl]) (fun i g v hg hv => ?_) hmem t0ex (fun i X hX => ?_) (fun i X s z n hX => ?_) hi.fixed).mono fun e w' he => ?_
  · rw [List.getElem?_map] at hg
    obtain ⟨g0, hg0, rfl⟩ := Option.map_eq_some_iff.1 hg
    exact (hr i g0 v hg0 hv).ren lead
  · obtain ⟨b, hbi, e1⟩ := cboxI i X hX
    exact .inl ⟨b, List.mem_of_getElem? hbi, e1⟩
  · obtain ⟨b, hbi, e1⟩ := crowI i _ hX
    exact .inr ⟨b, List.mem_of_getElem? hbi, s, z, n, e1⟩
  obtain ⟨v, C', g, bs', rs', rfl, ⟨rfl, rfl, rfl⟩, hRep, hM, hE⟩ := he
  refine ⟨v, rfl, ?_⟩
  unfold backP at h
  have hidB : (idsOf B d st.slots.length q.2.1.length).take B.length = B := by unfold idsOf; simp
  have hidR : (idsOf R d st.slots.length q.2.2.length).take R.length = R := by unfold idsOf; simp
  generalize idsOf B d st.slots.length q.2.1.length = ids at h hidB
  generalize idsOf R d st.slots.length q.2.2.length = rids at h hidR
  cases hc : backOk ids rids B R st q with
  | false => rw [hc] at h; exact h.elim
  | true =>
  rw [hc] at h
  simp only [cond_true, St.force_eq] at h
  unfold backOk at hc
  simp only [Bool.and_eq_true, List.all_eq_true] at hc
  obtain ⟨⟨⟨⟨⟨⟨⟨c1, c2⟩, c3⟩, c4⟩, c5⟩, c6⟩, c7⟩, c8⟩ := hc
  have nI := distinct_nodup c1
  have nJ := distinct_nodup c2
  have c5 := Nat.eq_of_beq_eq_true c5
  have c6 := Nat.eq_of_beq_eq_true c6
  have c3 : ∀ b ∈ ids, b < st.boxes.length := fun b hb => Nat.le_of_ble_eq_true (c3 b hb)
  have c4 : ∀ b ∈ rids, b < st.rows.length := fun b hb => Nat.le_of_ble_eq_true (c4 b hb)
  obtain ⟨C1, i1, i2, i3, i4, i5, i6, i7, i8, _⟩ := killRs (F := F) (a := a) (w := w) R st C hi
  -- which of the names are old ones
  have newB : ∀ (i b : Nat), ids[i]? = some b → (B[i]? = some b) ∨ C.box b = none := fun i b e => by
    by_cases hlt : i < B.length
    · left
      have := congrArg (fun l : List Nat => l[i]?) hidB
      simp only [List.getElem?_take, hlt, if_true] at this
      rw [← this]; exact e
    · right
      have hm : b ∈ ids.drop B.length := List.mem_iff_getElem?.2 ⟨i - B.length, by rw [List.getElem?_drop]; rw [show B.length + (i - B.length) = i from by omega]; exact e⟩
      have hn := c7 b hm
      cases hx : C.box b with
      | none => rfl
      | some X =>
        obtain ⟨cs, hcs⟩ := hi.mem.domB b X hx
        rw [List.getD_eq_getElem?_getD, hcs] at hn; simp at hn
  have newR : ∀ (i b : Nat), rids[i]? = some b → (R[i]? = some b) ∨ C.row b = none := fun i b e => by
    by_cases hlt : i < R.length
    · left
      have := congrArg (fun l : List Nat => l[i]?) hidR
      simp only [List.getElem?_take, hlt, if_true] at this
      rw [← this]; exact e
    · right
      have hm : b ∈ rids.drop R.length := List.mem_iff_getElem?.2 ⟨i - R.length, by rw [List.getElem?_drop]; rw [show R.length + (i - R.length) = i from by omega]; exact e⟩
      have hn := c8 b hm
      cases hx : C.row b with
      | none => rfl
      | some X =>
        obtain ⟨cs, hcs⟩ := hi.mem.domR b X hx
        rw [List.getD_eq_getElem?_getD, hcs] at hn; simp at hn
  have inB : ∀ (i b : Nat), B[i]? = some b → ids[i]? = some b := fun i b e => by
    have := congrArg (fun l : List Nat => l[i]?) hidB
    simp only [List.getElem?_take] at this
    rw [if_pos (List.getElem?_eq_some_iff.1 e).1] at this
    rw [this]; exact e
  have inR : ∀ (i b : Nat), R[i]? = some b → rids[i]? = some b := fun i b e => by
    have := congrArg (fun l : List Nat => l[i]?) hidR
    simp only [List.getElem?_take] at this
    rw [if_pos (List.getElem?_eq_some_iff.1 e).1] at this
    rw [this]; exact e
  let C2 : Cx := { box := fun b => match pos ids b with | some i => C'.box i | none => C1.box b, row := fun b => match pos rids b with | some i => C'.row i | none => C1.row b, ex := C'.ex }
  have b2 : ∀ (i b : Nat), ids[i]? = some b → C2.box b = C'.box i := fun i b e => by show (match pos ids b with | some i => _ | none => _) = _; rw [pos_at nI e]
  have r2 : ∀ (i b : Nat), rids[i]? = some b → C2.row b = C'.row i := fun i b e => by show (match pos rids b with | some i => _ | none => _) = _; rw [pos_at nJ e]
  have b3 : ∀ b, b ∉ ids → C2.box b = C.box b := fun b hb => by
    show (match pos ids b with | some i => _ | none => _) = _
    cases hp : pos ids b with
    | none => rw [← i2]
    | some i => exact absurd (List.mem_of_getElem? (pos_some hp)) hb
  have r3 : ∀ b, b ∉ rids → C2.row b = C1.row b := fun b hb => by
    show (match pos rids b with | some i => _ | none => _) = _
    cases hp : pos rids b with
    | none => rfl
    | some i => exact absurd (List.mem_of_getElem? (pos_some hp)) hb
  have rC : ∀ b, b ∉ rids → C1.row b = C.row b := fun b hb => i4 b (fun hR' => by
    obtain ⟨j, hj⟩ := List.mem_iff_getElem?.1 hR'
    exact hb (List.mem_of_getElem? (inR j b hj)))
  have bcase : ∀ b : Nat, (∃ i : Nat, ids[i]? = some b) ∨ b ∉ ids := fun b => by
    by_cases hm : b ∈ ids
    · exact .inl (List.mem_iff_getElem?.1 hm)
    · exact .inr hm
  have rcase : ∀ b : Nat, (∃ i : Nat, rids[i]? = some b) ∨ b ∉ rids := fun b => by
    by_cases hm : b ∈ rids
    · exact .inl (List.mem_iff_getElem?.1 hm)
    · exact .inr hm
  -- what the call left as it was
  have same : ∀ X, X < w.heap.size → ¬ t0 X → w'.heap[X]? = w.heap[X]? := hE.fr.block
  have keeps : Keeps C.ex w w' := ⟨hE.fr.size, fun X hX hn => same X hX (fun h => hn (t0ex X h)), hE.fr.ty⟩
  have exs : ∀ X, X < w.heap.size → ¬ C.ex X → ¬ C'.ex X := fun X hX hn hx => by
    rcases hE.exn X hx with h | h
    · exact hn h
    · omega
  have oldbox : ∀ b X, C.box b = some X → C2.box b = some X := fun b X hX => by
    rcases bcase b with ⟨i, e⟩ | e
    · rcases newB i b e with e' | e'
      · rw [b2 i b e]; exact hE.box i X (by rw [cbox i b e']; exact hX)
      · rw [e'] at hX; cases hX
    · rw [b3 b e]; exact hX
  have oldrow : ∀ b r, C1.row b = some r → C2.row b = some r := fun b r hr' => by
    rcases rcase b with ⟨i, e⟩ | e
    · rcases newR i b e with e' | e'
      · rw [i5 b (List.mem_of_getElem? e')] at hr'; cases hr'
      · by_cases hm : b ∈ R
        · rw [i5 b hm] at hr'; cases hr'
        · rw [i4 b hm, e'] at hr'; cases hr'
    · rw [r3 b e]; exact hr'
  have keep1 : ∀ g v, Rep C1 w g v → Rep C2 w' g v := fun g v hg => hg.keep (by rw [i3]; exact keeps) (fun X hX hn => by rw [i3] at hn; exact exs X hX hn) (fun b X hX => oldbox b X (by rw [← i2]; exact hX)) oldrow
  have lead2 : Leads C' C2 w' w' (fun i => ids[i]?) (fun i => rids[i]?) := ⟨fun i b X e hX => by rw [b2 i b e]; exact hX, fun i b X e hX => by rw [r2 i b e]; exact hX, Keeps.refl _ _, fun _ _ h => h⟩
  -- a name outside stands for a block that the call did not have
  have outB : ∀ b X, b ∉ ids → C.box b = some X → ¬ t0 X := fun b X hb hX ht => by
    rcases ht with ⟨b', hb', e⟩ | ⟨k', _, s, z, n, e⟩
    · have := hi.mem.bb b b' X hX e
      subst this
      obtain ⟨j, hj⟩ := List.mem_iff_getElem?.1 hb'
      exact hb (List.mem_of_getElem? (inB j b hj))
    · exact hi.mem.br b k' X s z n hX e
  have outR : ∀ b X s z n, b ∉ rids → C.row b = some (some (X, s, z, n)) → ¬ t0 X := fun b X s z n hb hX ht => by
    rcases ht with ⟨b', hb', e⟩ | ⟨k', hk', s', z', n', e⟩
    · exact hi.mem.br b' b X s z n e hX
    · have := hi.mem.rr b k' X s z n s' z' n' hX e
      subst this
      obtain ⟨j, hj⟩ := List.mem_iff_getElem?.1 hk'
      exact hb (List.mem_of_getElem? (inR j b hj))
  have domI : ∀ i X, C'.box i = some X → i < ids.length := fun i X e => by
    obtain ⟨cs, hcs⟩ := hM.domB i X e
    rw [c5]; exact (List.getElem?_eq_some_iff.1 hcs).1
  have domJ : ∀ i X, C'.row i = some X → i < rids.length := fun i X e => by
    obtain ⟨cs, hcs⟩ := hM.domR i X e
    rw [c6]; exact (List.getElem?_eq_some_iff.1 hcs).1
  refine ⟨C2, _, _, h, ⟨hi.nd, ?_, fun i g v hg hv => ?_, ⟨fun b cs hx => ?_, fun b xs hx => ?_, fun b X hX => ?_, fun b r hr' => ?_, fun b b' X e1 e2 => ?_, fun b b' X s z n s' z' n' e1 e2 => ?_, fun b j X s z n e1 e2 => ?_, hM.lt⟩, ?_, fun X hX => hE.ex X (hi.ex0 X hX), fun X hX => ?_, hi.t0, fun b X hX => ?_, fun b X s z n hX => ?_, fun b X hX => ?_⟩, hRep.ren lead2⟩
  · show a.tmps.size = (R.foldl (fun s k => s.killR k) st).slots.length
    rw [i8]; exact hi.sz
  · exact keep1 g v (i1.slots i g v hg hv)
  · -- a variable
    change (setMany (R.foldl (fun s k => s.killR k) st).boxes _)[b]? = _ at hx
    rcases bcase b with ⟨i, e⟩ | e
    · have hlt : i < q.2.1.length := by rw [← c5]; exact (List.getElem?_eq_some_iff.1 e).1
      rw [setMany_in ids _ _ i b _ nI e (by rw [List.getElem?_map, List.getElem?_eq_getElem hlt]; rfl) (by rw [i6]; exact c3 b (List.mem_of_getElem? e))] at hx
      obtain ⟨cs0, hcs0, e0⟩ := Option.map_eq_some_iff.1 (Option.some.inj hx)
      subst e0
      obtain ⟨X, us, T, k1, k2, k3, k4, k5, k6⟩ := hM.box i cs0 (by rw [List.getElem?_eq_getElem hlt, hcs0])
      refine ⟨X, us, T, by rw [b2 i b e]; exact k1, k2, k3, by simp [k4], k5, fun j g v hg hv => ?_⟩
      rw [List.getElem?_map] at hg
      obtain ⟨g0, hg0, rfl⟩ := Option.map_eq_some_iff.1 hg
      obtain ⟨q1, q2⟩ := k6 j g0 v hg0 hv
      exact ⟨cell_ren0 q1 _ _, q2.ren0 lead2 q1⟩
    · rw [setMany_out _ _ _ (fun p hp e' => e (by rw [← e']; exact (List.of_mem_zip (a := p.1) (b := p.2) hp).1))] at hx
      obtain ⟨X, us, T, k1, k2, k3, k4, k5, k6⟩ := i1.mem.box b cs hx
      rw [i2] at k1
      refine ⟨X, us, T, by rw [b3 b e]; exact k1, hE.ex X (by rw [i3] at k2; exact k2), by rw [same X (hi.mem.lt X (hi.mem.ltB k1)) (outB b X e k1)]; exact k3, k4, k5, fun j g v hg hv => ?_⟩
      obtain ⟨q1, q2⟩ := k6 j g v hg hv
      exact ⟨q1, keep1 g v q2⟩
  · -- a row
    change (setMany (R.foldl (fun s k => s.killR k) st).rows _)[b]? = _ at hx
    rcases rcase b with ⟨i, e⟩ | e
    · have hlt : i < q.2.2.length := by rw [← c6]; exact (List.getElem?_eq_some_iff.1 e).1
      rw [setMany_in rids _ _ i b _ nJ e (List.getElem?_eq_getElem hlt) (by rw [i7]; exact c4 b (List.mem_of_getElem? e))] at hx
      rcases hM.row i xs (by rw [List.getElem?_eq_getElem hlt]; exact hx) with k1 | ⟨X, s, z, n, us, T, fz, k1, k2, k3, k4, k5, k6, k6b, k7, k8⟩ | km
      rotate_left 2
      · exact .inr (.inr (km.move (fun q h => by rw [r2 i b e]; exact h) (fun _ _ _ h => h) (fun _ _ _ => rfl) (fun g u hg hu => hu.keep0 hg (Keeps.refl _ _) (fun _ _ h => h))))
      · exact .inl ⟨by rw [r2 i b e]; exact k1.1, k1.2⟩
      · exact .inr <| .inl ⟨X, s, z, n, us, T, fz, by rw [r2 i b e]; exact k1, k2, k3, k4, k5, k6, k6b, k7, fun i r j g v a1 a2 a3 => (k8 i r j g v a1 a2 a3).keep0 ((k7 r (List.mem_of_getElem? a1)).2 g (List.mem_of_getElem? a2)) (Keeps.refl _ _) (fun _ _ h => h)⟩
    · rw [setMany_out _ _ _ (fun p hp e' => e (by rw [← e']; exact (List.of_mem_zip (a := p.1) (b := p.2) hp).1))] at hx
      rcases i1.mem.row b xs hx with k1 | ⟨X, s, z, n, us, T, fz, k1, k2, k3, k4, k5, k6, k6b, k7, k8⟩ | km
      rotate_left 2
      · refine .inr (.inr (km.move (fun q h => by rw [r3 b e]; exact h) (fun X q _ h => hE.ex X (by rw [i3] at h; exact h)) (fun X q hq => ?_) (fun g u hg hu => keep1 g u hu)))
        have hq' : C.row b = some (some (X, q.1, q.2.1, q.2.2)) := by rw [← rC b e]; exact hq
        exact same X (hi.mem.lt X (hi.mem.ltR hq')) (outR b X _ _ _ e hq')
      · exact .inl ⟨by rw [r3 b e]; exact k1.1, k1.2⟩
      · have k1' : C.row b = some (some (X, s, z, n)) := by rw [← rC b e]; exact k1
        exact .inr <| .inl ⟨X, s, z, n, us, T, fz, by rw [r3 b e]; exact k1, hE.ex X (by rw [i3] at k2; exact k2), by rw [same X (hi.mem.lt X (hi.mem.ltR k1')) (outR b X s z n e k1')]; exact k3, k4, k5, k6, k6b, k7, fun i r j g v a1 a2 a3 =>
          keep1 g v (k8 i r j g v a1 a2 a3)⟩
  · rcases bcase b with ⟨i, e⟩ | e
    · rw [b2 i b e] at hX
      obtain ⟨cs, hcs⟩ := hM.domB i X hX
      refine ⟨cs.map (ren0 (fun i => ids[i]?) (fun i => rids[i]?)), ?_⟩
      show (setMany (R.foldl (fun s k => s.killR k) st).boxes _)[b]? = _
      exact setMany_in ids _ _ i b _ nI e (by rw [List.getElem?_map, hcs]; rfl) (by rw [i6]; exact c3 b (List.mem_of_getElem? e))
    · rw [b3 b e, ← i2] at hX
      obtain ⟨cs, hcs⟩ := i1.mem.domB b X hX
      refine ⟨cs, ?_⟩
      show (setMany (R.foldl (fun s k => s.killR k) st).boxes _)[b]? = _
      rw [setMany_out _ _ _ (fun p hp e' => e (by rw [← e']; exact (List.of_mem_zip (a := p.1) (b := p.2) hp).1))]; exact hcs
  · rcases rcase b with ⟨i, e⟩ | e
    · rw [r2 i b e] at hr'
      obtain ⟨cs, hcs⟩ := hM.domR i r hr'
      refine ⟨cs, ?_⟩
      show (setMany (R.foldl (fun s k => s.killR k) st).rows _)[b]? = _
      exact setMany_in rids _ _ i b _ nJ e hcs (by rw [i7]; exact c4 b (List.mem_of_getElem? e))
    · rw [r3 b e] at hr'
      obtain ⟨cs, hcs⟩ := i1.mem.domR b r hr'
      refine ⟨cs, ?_⟩
      show (setMany (R.foldl (fun s k => s.killR k) st).rows _)[b]? = _
      rw [setMany_out _ _ _ (fun p hp e' => e (by rw [← e']; exact (List.of_mem_zip (a := p.1) (b := p.2) hp).1))]; exact hcs
  · -- two variables in one block
    have cross : ∀ (i b b' : Nat), ids[i]? = some b → b' ∉ ids → C'.box i = some X → C.box b' = some X → False := fun i b b' e e' h1 h2 => by
      rcases hE.tb i X h1 with ht | ht
      · exact outB b' X e' h2 ht
      · have := hi.mem.lt X (hi.mem.ltB h2); omega
    rcases bcase b with ⟨i, e⟩ | e <;> rcases bcase b' with ⟨i', e'⟩ | e'
    · rw [b2 i b e] at e1; rw [b2 i' b' e'] at e2
      have := hM.bb i i' X e1 e2
      subst this
      rw [e] at e'; exact Option.some.inj e'
    · rw [b2 i b e] at e1; rw [b3 b' e'] at e2; exact (cross i b b' e e' e1 e2).elim
    · rw [b3 b e] at e1; rw [b2 i' b' e'] at e2; exact (cross i' b' b e' e e2 e1).elim
    · rw [b3 b e] at e1; rw [b3 b' e'] at e2; exact hi.mem.bb b b' X e1 e2
  · have cross : ∀ (i b b' s z n s' z' n' : Nat), rids[i]? = some b → b' ∉ rids → C'.row i = some (some (X, s, z, n)) → C.row b' = some (some (X, s', z', n')) → False := fun i b b' s z n s' z' n' e e' h1 h2 => by
      rcases hE.tr i X s z n h1 with ht | ht
      · exact outR b' X _ _ _ e' h2 ht
      · have := hi.mem.lt X (hi.mem.ltR h2); omega
    rcases rcase b with ⟨i, e⟩ | e <;> rcases rcase b' with ⟨i', e'⟩ | e'
    · rw [r2 i b e] at e1; rw [r2 i' b' e'] at e2
      have := hM.rr i i' X _ _ _ _ _ _ e1 e2
      subst this
      rw [e] at e'; exact Option.some.inj e'
    · rw [r2 i b e] at e1; rw [r3 b' e', rC b' e'] at e2; exact (cross i b b' _ _ _ _ _ _ e e' e1 e2).elim
    · rw [r3 b e, rC b e] at e1; rw [r2 i' b' e'] at e2; exact (cross i' b' b _ _ _ _ _ _ e' e e2 e1).elim
    · rw [r3 b e, rC b e] at e1; rw [r3 b' e', rC b' e'] at e2; exact hi.mem.rr b b' X _ _ _ _ _ _ e1 e2
  · rcases bcase b with ⟨i, e⟩ | e <;> rcases rcase j with ⟨i', e'⟩ | e'
    · rw [b2 i b e] at e1; rw [r2 i' j e'] at e2
      exact hM.br i i' X _ _ _ e1 e2
    · rw [b2 i b e] at e1; rw [r3 j e', rC j e'] at e2
      rcases hE.tb i X e1 with ht | ht
      · exact outR j X _ _ _ e' e2 ht
      · have := hi.mem.lt X (hi.mem.ltR e2); omega
    · rw [b3 b e] at e1; rw [r2 i' j e'] at e2
      rcases hE.tr i' X _ _ _ e2 with ht | ht
      · exact outB b X e e1 ht
      · have := hi.mem.lt X (hi.mem.ltB e1); omega
    · rw [b3 b e] at e1; rw [r3 j e', rC j e'] at e2; exact hi.mem.br b j X _ _ _ e1 e2
  · exact ⟨hE.fr.os.trans hi.fr.os, hE.fr.tape.trans hi.fr.tape, hE.fr.output.trans hi.fr.output, Nat.le_trans hi.fr.size hE.fr.size, fun X hX hn =>
      (same X (by have := hi.fr.size; omega) (fun ht => (t0F X ht).elim hn (fun h => by omega))).trans (hi.fr.block X hX hn), hi.fr.ty2 hE.fr⟩
  · rcases hE.exn X hX with h1 | h1
    · exact hi.exn X h1
    · exact .inr (by have := hi.fr.size; omega)
  · rcases bcase b with ⟨i, e⟩ | e
    · rw [b2 i b e] at hX
      rcases hE.tb i X hX with ht | ht
      · exact t0F X ht
      · exact .inr (by have := hi.fr.size; omega)
    · rw [b3 b e] at hX; exact hi.tb b X hX
  · rcases rcase b with ⟨i, e⟩ | e
    · rw [r2 i b e] at hX
      rcases hE.tr i X s z n hX with ht | ht
      · exact t0F X ht
      · exact .inr (by have := hi.fr.size; omega)
    · rw [r3 b e, rC b e] at hX; exact hi.tr b X s z n hX
  · obtain ⟨h1, h2⟩ := hi.fb b X hX
    refine ⟨oldbox b X h1, ?_⟩
    show (R.foldl (fun s k => s.killR k) st).slots.length + 8 ≤ b
    rw [i8]; exact h2
end
end Go.Proofs.YtijohhdgecadnaaDoor.Av
namespace Go.Proofs.YtijohhdgecadnaaDoor.Av
open Go Go.RowKit
set_option linter.unusedVariables false
set_option linter.unusedSimpArgs false

/-! A result: own rows are told as values. -/
def dn1 (st : St) (g : G) (k : G → Prop) : Prop :=
  match g with
  | .own kk off len => match st.rows.getD kk none with
    | some xs => off + len ≤ xs.length ∧ k (.sl ((xs.drop off).take len))
    | none => False
  | .nils => k (.sl [])
  | .emp => k (.sl [])
  | .ne => k (.sl [])
  | g => k g
def dnL (st : St) (gs : List G) : (List G → Prop) → Prop :=
  List.rec (motive := fun _ => (List G → Prop) → Prop) (fun k => k []) (fun g _ ih k => dn1 st g fun g' => ih fun gs' => k (g' :: gs')) gs
def dn2 (st : St) (g : G) (k : G → Prop) : Prop :=
  match g with
  | .agg gs => dnL st gs fun gs' => k (.agg gs')
  | g => dn1 st g k
def dnT (st : St) (gs : List G) : (List G → Prop) → Prop :=
  List.rec (motive := fun _ => (List G → Prop) → Prop) (fun k => k []) (fun g _ ih k => dn2 st g fun g' => ih fun gs' => k (g' :: gs')) gs
def dn (st : St) (g : G) (k : G → Prop) : Prop :=
  match g with
  | .tup gs => dnT st gs fun gs' => k (.tup gs')
  | g => dn2 st g k

section
variable {C : Cx} {F : Fd} {st : St} {a : Act} {w : World}
def Cx.out (ex : Nat → Prop) : Cx := { box := fun _ => none, row := fun _ => none, ex := ex }
theorem dn1_sound (hi : Inv C F st a w) {Co : Cx} (hx1 : ∀ B, B < w.heap.size → ¬ C.ex B → ¬ Co.ex B) (hx2 : ∀ k B s sz n, C.row k = some (some (B, s, sz, n)) → ¬ Co.ex B) {g : G} {k : G → Prop} (h : dn1 st g k) (hc : g.cell = true) {v : Value} (hr : Rep C w g v) : ∃ g', k g' ∧ (g'.closed0 = true → Rep Co w g' v) ∧ (g'.closed0 = false → g' = g) := by
  have std : ∀ g, k g → Rep C w g v → ∃ g', k g' ∧ (g'.closed0 = true → Rep Co w g' v) ∧ (g'.closed0 = false → g' = g) := fun g h hr =>
    ⟨g, h, fun h0 => hr.keep0 h0 (Keeps.refl _ _) hx1, fun _ => rfl⟩
  unfold dn1 at h
  split at h
  · rename_i kk off len
    split at h
    · rename_i xs hxs
      obtain ⟨hle, h⟩ := h
      refine ⟨_, h, fun _ => ?_, fun h0 => by simp [G.closed0] at h0⟩
      have hlen : ((xs.drop off).take len).length = len := by simp; omega
      cases hr with
      | ownnil _ _ hk => simp; exact .slnil _ _ (fun _ => rfl)
      | own _ _ _ B s sz n A hk ho hA hn0 =>
        rcases hi.mem.row2 (rowsOf hxs) (fun km => km.np hk hn0) with k1 | ⟨B', s', z', n', vs, T, fz, k1, k2, k3, k4, k5, k6, k6b, k7, k8⟩
        · rw [hk] at k1; cases k1.1
        · rw [hk] at k1; cases k1
          have hnx : ¬ Co.ex B := hx2 kk B s sz n hk
          have hget : ∀ (i : Nat) r, ((xs.drop off).take len)[i]? = some r → xs[off + i]? = some r := fun i r hir => by
            rw [List.getElem?_take] at hir
            split at hir
            · rwa [List.getElem?_drop] at hir
            · cases hir
          have hmem : ∀ r ∈ (xs.drop off).take len, r ∈ xs := fun r hr => List.mem_of_mem_drop (List.mem_of_mem_take hr)
          have main : ∀ (A' : Addr), A' = ⟨B, s + off * sz, none⟩ → Rep Co w (.sl ((xs.drop off).take len)) (.slice (some A') ((xs.drop off).take len).length (n - off)) := fun A' e => by
            subst e
            refine .sl _ ⟨B, s + off * sz, none⟩ (n - off) sz (fun i j => vs.getD (s + (off + i) * sz + j) undef) rfl (hi.mem.lt B k2) hnx (by rw [hlen]; omega) (fun r hr => (k7 r (hmem r hr)).1) (fun r hr => (k7 r (hmem r hr)).2) (fun i r j g h1 h2 => ?_) (fun i r j g h1 h2 => ?_)
            all_goals
              have hrow := hget i r h1
              have hj0 : j < sz := by rw [← (k7 r (List.mem_of_getElem? hrow)).1]; exact (List.getElem?_eq_some_iff.1 h2).1
              have hlt : off + i < xs.length := (List.getElem?_eq_some_iff.1 hrow).1
              have hj : s + (off + i) * sz + j < vs.length := by
                have := mul_lt (show off + i < n by omega) hj0; omega
              have hv : vs[s + (off + i) * sz + j]? = some (vs.getD (s + (off + i) * sz + j) undef) := by rw [List.getD_eq_getElem?_getD, List.getElem?_eq_getElem hj]; rfl
            · show w.cell? ⟨B, s + off * sz + i * sz + j, none⟩ = _
              rw [show s + off * sz + i * sz + j = s + (off + i) * sz + j from by rw [Nat.add_mul]; omega, cell_of_block k3]
              exact hv
            · exact (k8 (off + i) r j g _ hrow h2 hv).keep0 ((k7 r (List.mem_of_getElem? hrow)).2 g (List.mem_of_getElem? h2)) (Keeps.refl _ _) hx1
          by_cases hoff : off < n
          · have := main A (hA.1 hoff)
            rw [hlen] at this; exact this
          · obtain rfl : len = 0 := by omega
            have e : (xs.drop off).take 0 = [] := by simp
            rw [e]
            exact .sl [] A (n - off) sz (fun _ _ => undef) hA.2.2 (by rw [hA.2.1]; exact hi.mem.lt B k2) (by rw [hA.2.1]; exact hnx) (by simp) (fun r hr => by cases hr) (fun r hr => by cases hr) (fun i r j g hi => by cases hi) (fun i r j g hi => by cases hi)
    · exact h.elim
  · refine ⟨_, h, fun _ => ?_, fun h0 => by simp [G.closed0] at h0⟩
    cases hr; exact .slnil _ _ (fun _ => rfl)
  · refine ⟨_, h, fun _ => ?_, fun h0 => by simp [G.closed0] at h0⟩
    cases hr; exact .slnil _ _ (fun _ => rfl)
  · refine ⟨_, h, fun _ => ?_, fun h0 => by simp [G.closed0] at h0⟩
    cases hr; exact .slnil _ _ (fun e => by cases e)
  · exact std _ h hr
theorem dnL_sound (hi : Inv C F st a w) {Co : Cx} (hx1 : ∀ B, B < w.heap.size → ¬ C.ex B → ¬ Co.ex B) (hx2 : ∀ k B s sz n, C.row k = some (some (B, s, sz, n)) → ¬ Co.ex B) : ∀ (gs : List G) (k : List G → Prop) (vs : List Value), dnL st gs k → (∀ g ∈ gs, g.cell = true) → vs.length = gs.length → (∀ (i : Nat) g v, gs[i]? = some g → vs[i]? = some v → Rep C w g v) →
    ∃ gs', k gs' ∧ gs'.length = gs.length ∧ ∀ (i : Nat) g v, gs'[i]? = some g → vs[i]? = some v → g.closed0 = true → Rep Co w g v
  | [], k, vs, h, hc, hl, hr => ⟨[], h, rfl, fun i g v hg => by simp at hg⟩
  | g :: gs, k, [], h, hc, hl, hr => by simp at hl
  | g :: gs, k, v :: vs, h, hc, hl, hr => by
    have h : dn1 st g fun g' => dnL st gs fun gs' => k (g' :: gs') := h
    obtain ⟨g', h1, h2, _⟩ := dn1_sound hi hx1 hx2 (g := g) h (hc g (by simp)) (hr 0 g v rfl rfl)
    obtain ⟨gs', k1, k2, k3⟩ := dnL_sound hi hx1 hx2 gs _ vs h1 (fun g hg => hc g (by simp [hg])) (by simpa using hl) (fun i g v hg hv => hr (i + 1) g v (by simpa using hg) (by simpa using hv))
    refine ⟨g' :: gs', k1, by simp [k2], fun i q u hg hv h0 => ?_⟩
    cases i with
    | zero => simp at hg hv; subst hg; subst hv; exact h2 h0
    | succ i => exact k3 i q u (by simpa using hg) (by simpa using hv) h0
theorem dn2_sound (hi : Inv C F st a w) {Co : Cx} (hx1 : ∀ B, B < w.heap.size → ¬ C.ex B → ¬ Co.ex B) (hx2 : ∀ k B s sz n, C.row k = some (some (B, s, sz, n)) → ¬ Co.ex B) {g : G} {k : G → Prop} (h : dn2 st g k) {v : Value} (hr : Rep C w g v) : ∃ g', k g' ∧ (g'.closed = true → Rep Co w g' v) ∧ (∀ gs, g' = .tup gs → ∃ gs, g = .tup gs) := by
  cases g with
  | agg gs =>
    obtain ⟨vs, rfl, ⟨h1, h2, h3⟩, h4⟩ := hr.agg_inv
    obtain ⟨gs', k1, k2, k3⟩ := dnL_sound hi hx1 hx2 gs _ vs h h4 h1 h3
    refine ⟨_, k1, fun h0 => ?_, fun _ h => by cases h⟩
    simp only [G.closed, List.all_eq_true] at h0
    exact .agg gs' vs (by rw [h1, k2]) (fun g hg => closed0_cell (h0 g hg)) h2 (fun i g v hg hv => k3 i g v hg hv (h0 g (List.mem_of_getElem? hg)))
  | tup gs => exact ⟨_, h, (fun h0 => by simp [G.closed, G.closed0] at h0), fun _ _ => ⟨_, rfl⟩⟩
  | junk => exact ⟨_, h, (fun h0 => by simp [G.closed, G.closed0] at h0), fun _ h => by cases h⟩
  | und => exact ⟨_, h, (fun h0 => by simp [G.closed, G.closed0] at h0), fun _ h => by cases h⟩
  | fn f caps => exact ⟨_, h, fun h0 => hr.closed h0 (Keeps.refl _ _) hx1, fun _ h => by cases h⟩
  | elt row off => exact ⟨_, h, fun h0 => hr.closed h0 (Keeps.refl _ _) hx1, fun _ h => by cases h⟩
  | _ =>
    simp only [dn2] at h
    obtain ⟨g', h1, h2, h3⟩ := dn1_sound (k := k) hi hx1 hx2 (hr := hr) (hc := rfl) (h := h)
    refine ⟨g', h1, fun h0 => ?_, fun gs e => by subst e; have := h3 rfl; cases this⟩
    by_cases hc : g'.closed0 = true
    · exact h2 hc
    · have := h3 (by simpa using hc)
      subst this
      simp_all [G.closed, G.closed0]
theorem dnT_sound (hi : Inv C F st a w) {Co : Cx} (hx1 : ∀ B, B < w.heap.size → ¬ C.ex B → ¬ Co.ex B) (hx2 : ∀ k B s sz n, C.row k = some (some (B, s, sz, n)) → ¬ Co.ex B) : ∀ (gs : List G) (k : List G → Prop) (vs : List Value), dnT st gs k → vs.length = gs.length → (∀ (i : Nat) g v, gs[i]? = some g → vs[i]? = some v → Rep C w g v) →
    ∃ gs', k gs' ∧ gs'.length = gs.length ∧ ∀ (i : Nat) g v, gs'[i]? = some g → vs[i]? = some v → g.closed = true → Rep Co w g v
  | [], k, vs, h, hl, hr => ⟨[], h, rfl, fun i g v hg => by simp at hg⟩
  | g :: gs, k, [], h, hl, hr => by simp at hl
  | g :: gs, k, v :: vs, h, hl, hr => by
    have h : dn2 st g fun g' => dnT st gs fun gs' => k (g' :: gs') := h
    obtain ⟨g', h1, h2, _⟩ := dn2_sound hi hx1 hx2 (g := g) h (hr 0 g v rfl rfl)
    obtain ⟨gs', k1, k2, k3⟩ := dnT_sound hi hx1 hx2 gs _ vs h1 (by simpa using hl) (fun i g v hg hv => hr (i + 1) g v (by simpa using hg) (by simpa using hv))
    refine ⟨g' :: gs', k1, by simp [k2], fun i q u hg hv h0 => ?_⟩
    cases i with
    | zero => simp at hg hv; subst hg; subst hv; exact h2 h0
    | succ i => exact k3 i q u (by simpa using hg) (by simpa using hv) h0
theorem dn_sound (hi : Inv C F st a w) {Co : Cx} (hx1 : ∀ B, B < w.heap.size → ¬ C.ex B → ¬ Co.ex B) (hx2 : ∀ k B s sz n, C.row k = some (some (B, s, sz, n)) → ¬ Co.ex B) {g : G} {k : G → Prop} (h : dn st g k) {v : Value} (hr : Rep C w g v) : ∃ g', k g' ∧ (g'.closedR = true → Rep Co w g' v) := by
  have std : dn2 st g k → (∀ gs, g ≠ .tup gs) → ∃ g', k g' ∧ (g'.closedR = true → Rep Co w g' v) := fun h hne => by
    obtain ⟨g', h1, h2, h3⟩ := dn2_sound hi hx1 hx2 h hr
    refine ⟨g', h1, fun h0 => h2 ?_⟩
    cases g' <;> first | exact h0 | skip
    obtain ⟨gs, e⟩ := h3 _ rfl
    exact absurd e (hne gs)
  cases g with
  | tup gs =>
    cases hr with
    | tup _ vs hl hr =>
      obtain ⟨gs', k1, k2, k3⟩ := dnT_sound hi hx1 hx2 gs _ vs h hl hr
      refine ⟨_, k1, fun h0 => ?_⟩
      simp only [G.closedR, List.all_eq_true] at h0
      exact .tup gs' vs (by rw [hl, k2]) (fun i g v hg hv => k3 i g v hg hv (h0 g (List.mem_of_getElem? hg)))
  | _ => exact std h (fun gs => by simp)
end

section
variable {C : Cx} {F : Fd} {st : St} {a : Act} {w : World}
/-- The rows are nobody's: what a callee that is lent them sees. -/
def Cx.lent (C : Cx) : Cx := { box := fun _ => none, row := fun _ => none, ex := fun B => C.ex B ∧ ¬ ∃ k s sz n, C.row k = some (some (B, s, sz, n)) }
def lendP (P : Program) (f : FuncId) (gs : List G) (st : St) (k : G → St → Prop) : Prop :=
  dnT st gs fun gs' => fS gs' fun gs' => bif gs'.all G.closed then ∃ g, Fv P f gs' g ∧ bif g.flatR then k g st else False else False
theorem Rep.flat0 {C C' : Cx} {w w' : World} {g : G} {v : Value} (h : Rep C w g v) (hg : g.flat0 = true) : Rep C' w' g v := by
  cases h <;> first | (simp [G.flat0] at hg; done) | skip
  · exact .int ..
  · exact .bool ..
  · exact .str ..
  · exact .lit _ (by assumption)
theorem Rep.flatR {C C' : Cx} {w w' : World} {g : G} {v : Value} (h : Rep C w g v) (hg : g.flatR = true) : Rep C' w' g v := by
  have ag : ∀ gs v, Rep C w (.agg gs) v → gs.all G.flat0 = true → Rep C' w' (.agg gs) v := fun gs v h hg => by
    simp only [List.all_eq_true] at hg
    cases h with
    | agg _ vs hl hc hv h => exact .agg gs vs hl hc hv (fun i g v h1 h2 => (h i g v h1 h2).flat0 (hg g (List.mem_of_getElem? h1)))
  cases g with
  | agg gs => exact ag gs v h hg
  | tup gs =>
    simp only [G.flatR, List.all_eq_true] at hg
    cases h with
    | tup _ vs hl h =>
      refine .tup gs vs hl (fun i g v h1 h2 => ?_)
      have hr := h i g v h1 h2
      have hq := hg g (List.mem_of_getElem? h1)
      cases g with
      | agg hs => exact ag hs v hr hq
      | _ => exact hr.flat0 hq
  | _ => exact h.flat0 hg
theorem lend_sound {P : Program} {f : FuncId} {gs : List G} {k : G → St → Prop} (h : lendP P f gs st k) (hi : Inv C F st a w) {vs : List Value} (hl : vs.length = gs.length)
    (hr : ∀ (i : Nat) g v, gs[i]? = some g → vs[i]? = some v → Rep C w g v) : hasBody P f = true ∧ Calls P f ⟨vs⟩ w fun e w' => ∃ v, e = .returned v ∧ After F k a v w' := by
  unfold lendP at h
  obtain ⟨gs', h, h2, h3⟩ := dnT_sound (Co := C.lent) hi (fun B _ hn hx => hn hx.1) (fun k B s sz n hk hx => hx.2 ⟨k, s, sz, n, hk⟩) gs _ vs h hl hr
  rw [fS_eq] at h
  cases hc : gs'.all G.closed with
  | false => rw [hc] at h; exact h.elim
  | true =>
    rw [hc] at h
    obtain ⟨g, ⟨hb, hF⟩, h⟩ := h
    refine ⟨hb, ?_⟩
    cases hg : g.flatR with
    | false => rw [hg] at h; exact h.elim
    | true =>
      rw [hg] at h
      simp only [List.all_eq_true] at hc
      refine (hF C.lent w (fun _ => False) vs (by rw [hl, h2]) (fun i g v e1 e2 => h3 i g v e1 e2 (hc g (List.mem_of_getElem? e1))) (mem0 w _ (fun B hB => hi.mem.lt B hB.1)) (fun _ h => h.elim) (fun _ _ h => (by cases h)) (fun _ _ _ _ _ h => (by cases h)) (hi.fixed.sub (fun _ h => h.1))).mono fun e w' he => ?_
      obtain ⟨v, C', g', bs', rs', rfl, ⟨rfl, rfl, rfl⟩, hR, hM, hE⟩ := he
      refine ⟨v, rfl, C, g', st, h, ?_, hR.flatR hg⟩
      have hlt : ∀ B, C.ex B → w'.heap[B]? = w.heap[B]? := fun B hB => hE.fr.block B (hi.mem.lt B hB) (fun h => h)
      exact hi.step ⟨hE.fr.os.trans hi.fr.os, hE.fr.tape.trans hi.fr.tape, hE.fr.output.trans hi.fr.output, Nat.le_trans hi.fr.size hE.fr.size, fun B hB hn => (hE.fr.block B (by have := hi.fr.size; omega) (fun h => h)).trans (hi.fr.block B hB hn), hi.fr.ty2 hE.fr⟩
        ⟨hE.fr.size, fun B hB _ => hE.fr.block B hB (fun h => h), hE.fr.ty⟩ (fun b B hB => hlt B (hi.mem.ltB hB)) (fun k B s sz n hk => hlt B (hi.mem.ltR hk)) C.ex (fun _ h => h) (fun _ h => .inl h) (fun B hB => by have := hi.mem.lt B hB; have := hE.fr.size; omega)
end
end Go.Proofs.YtijohhdgecadnaaDoor.Av
namespace Go.Proofs.YtijohhdgecadnaaDoor.Av
open Go Go.RowKit
set_option linter.unusedVariables false
set_option linter.unusedSimpArgs false

section
variable {P : Program} {C : Cx} {F : Fd} {st : St} {a : Act} {w : World}

/-- A store into an own row's element. -/
theorem Inv.storeRow {k : Nat} {xs : List (List G)} {w' : World} (h : Inv C F st a w) (hxs : st.rows[k]? = some (some xs)) {B s sz n : Nat} {vs : List Value} {T : TypeId} {fz : Nat × Nat} (k1 : C.row k = some (some (B, s, sz, n)))
    (k3 : w.heap[B]? = some (.cells ⟨vs⟩ T fz)) (k4 : s + n * sz ≤ vs.length) (k5 : 0 < xs.length ∧ xs.length ≤ n) (k6 : ∀ o : Nat, (o < vs.length ∨ ovlK.isEmpty = false) → ¬ (fz.1 ≤ o ∧ o < fz.2)) (k6b : ∀ v ∈ vs, v.oneCell' = true)
    (k7 : ∀ r ∈ xs, r.length = sz ∧ ∀ g ∈ r, g.closed0 = true) (k8 : ∀ (i : Nat) r (j : Nat) g v, xs[i]? = some r → r[j]? = some g → vs[s + i * sz + j]? = some v → Rep C w g v)
    {i off : Nat} {row us : List G} {ws : List Value} (hrow : xs[i]? = some row) (hle : off + us.length ≤ row.length) (hl : ws.length = us.length) (hcl : ∀ g ∈ us, g.closed0 = true) (h1 : ∀ v ∈ ws, v.oneCell' = true)
    (hr : ∀ (j : Nat) g v, us[j]? = some g → ws[j]? = some v → Rep C w g v) (ho : Only w w' B (blit vs (s + i * sz + off) ws) T fz) : Inv C F (st.setRow k (xs.set i (blit row off us))) a w' := by
  have he : C.ex B := h.mem.ltR k1
  have hk := ho.keeps he
  have keep : ∀ g v, Rep C w g v → Rep C w' g v := fun g v hg => hg.keep hk (fun _ _ h => h) (fun _ _ h => h) (fun _ _ h => h)
  have hkl : k < st.rows.length := (List.getElem?_eq_some_iff.1 hxs).1
  have hil : i < xs.length := (List.getElem?_eq_some_iff.1 hrow).1
  have hrl : row.length = sz := (k7 row (List.mem_of_getElem? hrow)).1
  have hsp : s + i * sz + off + ws.length ≤ vs.length := by
    have : (i + 1) * sz ≤ n * sz := Nat.mul_le_mul_right _ (by omega)
    rw [Nat.succ_mul] at this; omega
  refine ⟨h.nd, h.sz, fun j g v hg hv => keep g v (h.slots j g v hg hv), ⟨fun x cs' hx => ?_, fun x ys hx => ?_, h.mem.domB, fun x X hx => ?_, h.mem.bb, h.mem.rr, h.mem.br, fun X hX => by rw [ho.size]; exact h.mem.lt X hX⟩, ho.fr h.fr (h.tr k B s sz n k1), h.ex0, h.exn, h.t0, h.tb, h.tr, h.fb⟩
  · obtain ⟨X, vs', T', q1, q2, q3, q4, q5, q6⟩ := h.mem.box x cs' hx
    have hne : X ≠ B := fun e' => h.mem.br x k B s sz n (by rw [← e']; exact q1) k1
    exact ⟨X, vs', T', q1, q2, by rw [ho.block X hne]; exact q3, q4, q5, fun j g v hg hv => ⟨(q6 j g v hg hv).1, keep _ _ (q6 j g v hg hv).2⟩⟩
  · by_cases e : x = k
    · subst e
      simp only [St.setRow, List.getElem?_set_self hkl, Option.some.injEq] at hx
      subst hx
      refine .inr <| .inl ⟨B, s, sz, n, _, T, fz, k1, he, ho.here, by rw [blit_length]; exact k4, by simpa using k5, (fun o ho => k6 o (by rwa [blit_length] at ho)), fun v hv => ?_, fun r hm => ?_, fun i' r j g v a1 a2 a3 => ?_⟩
      · obtain ⟨j, hj⟩ := List.mem_iff_getElem?.1 hv
        rw [blit_get _ _ _ _ hsp] at hj
        split at hj
        · exact h1 v (List.mem_of_getElem? hj)
        · exact k6b v (List.mem_of_getElem? hj)
      · rcases List.mem_or_eq_of_mem_set hm with hm | rfl
        · exact k7 r hm
        · refine ⟨by rw [blit_length]; exact hrl, fun g hg => ?_⟩
          obtain ⟨j, hj⟩ := List.mem_iff_getElem?.1 hg
          rw [blit_get _ _ _ _ (by omega)] at hj
          split at hj
          · exact hcl g (List.mem_of_getElem? hj)
          · exact (k7 row (List.mem_of_getElem? hrow)).2 g (List.mem_of_getElem? hj)
      · rw [blit_get _ _ _ _ hsp] at a3
        rw [List.getElem?_set] at a1
        by_cases e : i = i'
        · subst e
          rw [if_pos rfl, if_pos hil] at a1
          cases a1
          rw [blit_get _ _ _ _ (by omega)] at a2
          by_cases hc : off ≤ j ∧ j < off + us.length
          · rw [if_pos hc] at a2
            rw [if_pos (by omega), show s + i * sz + j - (s + i * sz + off) = j - off from by omega] at a3
            exact keep _ _ (hr _ g v a2 a3)
          · rw [if_neg hc] at a2
            rw [if_neg (by omega)] at a3
            exact keep _ _ (k8 i row j g v hrow a2 a3)
        · rw [if_neg e] at a1
          have hj : j < sz := by rw [← (k7 r (List.mem_of_getElem? a1)).1]; exact (List.getElem?_eq_some_iff.1 a2).1
          rw [if_neg (by
            intro hc
            rcases Nat.lt_or_gt_of_ne e with hlt | hlt
            · have : (i + 1) * sz ≤ i' * sz := Nat.mul_le_mul_right _ hlt
              rw [Nat.succ_mul] at this; omega
            · have : (i' + 1) * sz ≤ i * sz := Nat.mul_le_mul_right _ hlt
              rw [Nat.succ_mul] at this; omega)] at a3
          exact keep _ _ (k8 i' r j g v a1 a2 a3)
    · simp only [St.setRow, List.getElem?_set_ne (fun e' => e e'.symm)] at hx
      rcases h.mem.row x ys hx with q1 | ⟨X, s', sz', n', vs', T', fz', q1, q2, q3, q4, q5, q6, q6b, q7, q8⟩ | km
      · exact .inl q1
      · have hne : X ≠ B := fun e' => e (h.mem.rr x k X s' sz' n' s sz n q1 (by rw [e']; exact k1))
        exact .inr (.inl ⟨X, s', sz', n', vs', T', fz', q1, q2, by rw [ho.block X hne]; exact q3, q4, q5, q6, q6b, q7, fun i r j g v a1 a2 a3 => keep _ _ (q8 i r j g v a1 a2 a3)⟩)
      · exact .inr (.inr (km.move (fun q h => h) (fun _ _ _ h => h) (fun X q hq => ho.block X (fun e' => e (h.mem.rr x k X _ _ _ s sz n hq (by rw [e']; exact k1)))) (fun g u _ hu => keep _ _ hu)))
  · by_cases e : x = k
    · subst e; exact ⟨_, by simp only [St.setRow]; exact List.getElem?_set_self hkl⟩
    · obtain ⟨ys, hys⟩ := h.mem.domR x X hx
      exact ⟨ys, by simp only [St.setRow, List.getElem?_set_ne (fun e' => e e'.symm)]; exact hys⟩

def storeW (P : Program) (t : TypeId) (st : St) (kk i off : Nat) (x : G) (k : St → Prop) : Prop :=
  match P.underlying t, st.rows.getD kk none with
  | some _, some xs => ∃ row, (xs[i]? = some row ∧ off + P.cellsOf t ≤ row.length) ∧ bif okReg x && (x.cells.length == P.cellsOf t) && x.cells.all G.closed0 then k (st.setRow kk (xs.set i (blit row off x.cells))) else False
  | _, _ => False
theorem storeW_sound {t : TypeId} {kk i off : Nat} {x : G} {k : St → Prop} (h : storeW P t st kk i off x k) (hi : Inv C F st a w) {u v : Value} (hp : Rep C w (.eltw kk i off) u) (hx : Rep C w x v) :
    ∃ st' w', k st' ∧ (Instr.storeAt t u v).run P w = .ok () w' ∧ Inv C F st' a w' := by
  unfold storeW at h
  split at h
  · rename_i dd xs hu hxs
    obtain ⟨row, ⟨hrow, hle⟩, h⟩ := h
    cases hc : okReg x && (x.cells.length == P.cellsOf t) && x.cells.all G.closed0 with
    | false => rw [hc] at h; exact h.elim
    | true =>
      rw [hc] at h
      simp only [Bool.and_eq_true, beq_iff_eq, List.all_eq_true] at hc
      obtain ⟨⟨c1, c2⟩, c3⟩ := hc
      obtain ⟨r1, r2, r3⟩ := hx.cells (okReg_cases c1)
      cases hp with
      | eltw _ _ _ B s sz n hr hn0 =>
        rcases hi.mem.row2 (rowsOf hxs) (fun km => km.np hr hn0) with ⟨k1, rfl⟩ | ⟨B', s', z', n', vs, T, fz, k1, k2, k3, k4, k5, k6, k6b, k7, k8⟩
        · simp at hrow
        · rw [hr] at k1; cases k1
          have hil : i < xs.length := (List.getElem?_eq_some_iff.1 hrow).1
          have hrl : row.length = sz := (k7 row (List.mem_of_getElem? hrow)).1
          obtain ⟨w', hw, ho⟩ := run_storeVar_on (P := P) k3 hu (v := v) (o := s + i * sz + off) (by rw [r1, c2]) (by
            have : (i + 1) * sz ≤ n * sz := Nat.mul_le_mul_right _ (by omega)
            rw [Nat.succ_mul] at this; omega) r2 (fun o ho => k6 o (.inl ho))
          exact ⟨_, w', h, by simpa [Instr.storeAt, Instr.sureAddr] using hw, hi.storeRow (rowsOf hxs) hr k3 k4 k5 k6 k6b k7 k8 hrow (by omega) r1 c3 r2 (fun j g v hg hv => (r3 j g v hg hv).2) ho⟩
  · exact h.elim

def makeP (P : Program) (d : Nat) (t : TypeId) (l c : G) (st : St) (k : G → St → Prop) : Prop :=
  match P.underlying t, l, c with
  | some (.slice e), .int _ n, .int _ m => match zeroCells P e with
    | some zc => bif zc.all G.closed0 && Nat.blt 0 (P.cellsOf e) && Nat.blt d st.rows.length then (0 ≤ n ∧ n = m ∧ n * P.bytesOf e ≤ 281474976710656 ∧ n ≤ 281474976710656) ∧ k (.own d 0 n.toNat) ((st.freeRow d).setRow d (List.replicate n.toNat zc)) else False
    | none => False
  | _, _, _ => False
theorem makeP_sound {d : Nat} {t : TypeId} {l c : G} {k : G → St → Prop} (h : makeP P d t l c st k) (hi : Inv C F st a w) {u v : Value} (hl : Rep C w l u) (hc : Rep C w c v) :
    ∃ z w', (Instr.makeSlice t u v).run P w = .ok z w' ∧ After F k a z w' := by
  unfold makeP at h
  split at h
  · rename_i e k1 n k2 m hu
    split at h
    · rename_i zc hz
      cases hq : zc.all G.closed0 && Nat.blt 0 (P.cellsOf e) && Nat.blt d st.rows.length with
      | false => rw [hq] at h; exact h.elim
      | true =>
        rw [hq] at h
        simp only [Bool.and_eq_true, List.all_eq_true] at hq
        obtain ⟨⟨q1, q2⟩, q3⟩ := hq
        have q2 := Nat.le_of_ble_eq_true q2
        have q3 := Nat.le_of_ble_eq_true q3
        obtain ⟨⟨n0, rfl, n1, n2⟩, h⟩ := h
        obtain rfl := hl.int_inv
        obtain rfl := hc.int_inv
        obtain ⟨z, z1, z2, z3, z4, z5⟩ := zeroCells_sound hz w
        -- the type's facts
        unfold zeroCells at hz
        split at hz
        · rename_i ii hii
          split at hz
          · rename_i zz hzz
            have hbytes : P.bytesOf e = ii.bytes := by simp [Program.bytesOf, hii]
            have hsize : P.cellsOf e = ii.size := by simp [Program.cellsOf, hii]
            have hrun := run_make w t e ii zz hu hii hzz k1 k2 n n n0 (Int.le_refl _) (by rw [hbytes] at n1; rw [Int.mul_comm]; exact n1) (by omega)
            obtain ⟨z', zr⟩ : ∃ z', (zeroValue e).run P w = .ok z' w ∧ z' = zz := ⟨zz, by simp [zeroValue, hii, hzz, typeInfo], rfl⟩
            rw [zr.2] at zr
            rw [zr.1] at z1
            cases z1
            have hzs : z.cells.size = P.cellsOf e := by rw [← Array.length_toList, z2, z3]
            obtain ⟨C1, hI1, hk1, hbx, hex, hrw, _⟩ := hi.freeRow d
            have hlt1 : d < (st.freeRow d).rows.length := by rw [freeRow_len]; exact q3
            rcases Int.lt_or_eq_of_le n0 with hpos | rfl
            · have hnp : 0 < n.toNat := by omega
              obtain ⟨C2, hI2, hk2⟩ := hI1.newRow (k := d) hk1 hlt1 (sz := P.cellsOf e) (n := n.toNat) (vs := (madeCells z.cells (n.toNat * ii.size)).toList) (T := e) (fz := (0, 0)) (xs := List.replicate n.toNat zc)
                (by rw [Array.length_toList, size_madeCells, hsize]; exact Nat.le_refl _) ⟨by rw [List.length_replicate]; exact hnp, by rw [List.length_replicate]; exact Nat.le_refl _⟩
                (fun v hv => by
                  obtain ⟨j, hj⟩ := List.mem_iff_getElem?.1 hv
                  have hjl : j < n.toNat * ii.size := by have := (List.getElem?_eq_some_iff.1 hj).1; rwa [Array.length_toList, size_madeCells] at this
                  simp [madeCells, hjl] at hj
                  have hm : j % z.cells.size < z.cells.size := Nat.mod_lt _ (by omega)
                  rw [getElem!_pos z.cells _ hm] at hj
                  exact z4 v (by rw [← hj]; simp))
                (fun o _ => by simp) (fun r hr => by
                  rw [List.eq_of_mem_replicate hr]
                  exact ⟨z3, fun g hg => q1 g hg⟩)
                (fun i r j g v a1 a2 a3 => by
                  have hr : r = zc := List.eq_of_mem_replicate (List.mem_of_getElem? a1)
                  subst hr
                  have hi' : i < n.toNat := by have := (List.getElem?_eq_some_iff.1 a1).1; simpa using this
                  have hj : j < P.cellsOf e := by rw [← z3]; exact (List.getElem?_eq_some_iff.1 a2).1
                  have hm0 := mul_lt hi' hj
                  have hb : i * P.cellsOf e + j < n.toNat * ii.size := by rw [← hsize]; exact hm0
                  simp [madeCells, hb] at a3
                  have e1 : (i * P.cellsOf e + j) % z.cells.size = j := by rw [hzs, Nat.mul_comm, Nat.mul_add_mod, Nat.mod_eq_of_lt hj]
                  rw [e1, getElem!_pos z.cells _ (by omega)] at a3
                  exact (z5 C1 w j g v a2 (by rw [← a3]; simp)).2)
              refine ⟨_, _, hrun, C2, _, _, h, hI2, ?_⟩
              have := Rep.own (C := C2) (w := w.alloc (.cells (madeCells z.cells (n.toNat * ii.size)) e)) d 0 n.toNat w.heap.size 0 (P.cellsOf e) n.toNat ⟨w.heap.size, 0, none⟩ hk2 (by omega) ⟨fun _ => by simp, rfl, rfl⟩ hnp
              simpa using this
            · have hI1' := hI1.lt_alloc (.cells (madeCells z.cells ((0 : Int).toNat * ii.size)) e)
              obtain ⟨C2, hI2, hk2, _⟩ := hI1'.addNil (k := d) hk1 hlt1
              exact ⟨_, _, hrun, C2, _, _, h, hI2, .ownnil d _ hk2⟩
          · cases hz
        · cases hz
    · exact h.elim
  · exact h.elim

/-! Cutting own rows, and to nothing. -/
def sliceO (P : Program) (t : TypeId) (st : St) (kk off len : Nat) (lo hi : Option G) (k : G → Prop) : Prop :=
  match P.underlying t, st.rows.getD kk none with
  | some (.slice e), some xs => bif (P.info? e).isNone then False else boundP hi len fun h hz => boundP lo 0 fun l lz => (0 ≤ lz ∧ lz ≤ hz ∧ hz ≤ len ∧ ∀ r ∈ xs, r.length = P.cellsOf e) ∧ k (.own kk (off + l) (h - l))
  | _, _ => False
theorem sliceO_sound {t : TypeId} {kk off len : Nat} {lo hi' : Option Operand} {k : G → Prop} (h : sliceO P t st kk off len (lo.map st.ev) (hi'.map st.ev) k) (hi : Inv C F st a w) {u : Value} (hx : Rep C w (.own kk off len) u) :
    ∃ g z, k g ∧ (Instr.sliceAt t u (lo.map a.eval) (hi'.map a.eval) none).run P w = .ok z w ∧ Rep C w g z := by
  unfold sliceO at h
  split at h
  · rename_i e xs hu hxs
    cases hin : (P.info? e).isNone with
    | true => rw [hin] at h; exact h.elim
    | false =>
      rw [hin] at h
      simp only [cond_false] at h
      obtain ⟨ii, hii⟩ : ∃ ii, P.info? e = some ii := by cases hq : P.info? e <;> simp_all
      obtain ⟨hh, hz, h, e1⟩ := boundP_run h hi
      obtain ⟨l, lz, ⟨⟨b1, b2, b3, b4⟩, h⟩, e2⟩ := boundP_run h hi
      have hlh : l ≤ hh ∧ hh ≤ len := by
        rcases e1 with ⟨_, q1, q2⟩ | ⟨_, _, _, _, q1⟩ <;> rcases e2 with ⟨_, q3, q4⟩ | ⟨_, _, _, _, q3⟩ <;> omega
      cases hx with
      | ownnil _ A hr =>
        obtain rfl : hh = 0 := by omega
        obtain rfl : l = 0 := by omega
        refine ⟨_, .slice A 0 0, h, ?_, by simpa using Rep.ownnil kk A hr⟩
        simp only [Instr.sliceAt, Instr.slice, Sem.run_bind, run_underlying hu, Result.andThen_ok]
        rw [run_bounds (P := P) (a := a) (cap := 0) e1 e2 b1 b2 b3 (Nat.le_refl _)]
        simp only [Result.andThen_ok, Go.run_sizeOf w hii, Sem.run_pure, Sem.run_bind]
        simp
      | own _ _ _ B s sz n A hr ho hA hn0 =>
        rcases hi.mem.row2 (rowsOf hxs) (fun km => km.np hr hn0) with ⟨k1, rfl⟩ | ⟨B', s', z', n', vs, T, fz, k1, k2, k3, k4, k5, k6, k6b, k7, k8⟩
        · rw [k1] at hr; cases hr
        · rw [hr] at k1; cases k1
          have hx0 : xs[0]? = some (xs[0]'(by omega)) := List.getElem?_eq_getElem (by omega)
          have hsz : sz = P.cellsOf e := by rw [← (k7 _ (List.mem_of_getElem? hx0)).1]; exact b4 _ (List.mem_of_getElem? hx0)
          refine ⟨_, .slice (if n - off = l then some A else (some A).map (·.add (l * P.cellsOf e))) (hh - l) (n - off - l), h, ?_, ?_⟩
          · simp only [Instr.sliceAt, Instr.slice, Sem.run_bind, run_underlying hu, Result.andThen_ok]
            rw [run_bounds (P := P) (a := a) (cap := n - off) e1 e2 b1 b2 b3 (by omega)]
            simp only [Result.andThen_ok, Go.run_sizeOf w hii, Sem.run_pure, Sem.run_bind]
          · rw [show n - off - l = n - (off + l) from by omega]
            by_cases hl : n - off = l
            · rw [if_pos hl]
              exact .own kk (off + l) (hh - l) B s sz n A hr (by omega) ⟨fun hlt => by omega, hA.2.1, hA.2.2⟩ hn0
            · rw [if_neg hl]
              obtain rfl := hA.1 (by omega)
              simp only [Option.map_some, addr_add]
              exact .own kk (off + l) (hh - l) B s sz n _ hr (by omega) ⟨fun hlt => by rw [← hsz, Nat.add_mul, Nat.add_assoc], rfl, rfl⟩ hn0
  · exact h.elim

theorem run_boundsF {lo hi' : Option Operand} {isS : Bool} {len cap l h : Nat} {lz hz : Int} (hh : (hi' = none ∧ h = len ∧ hz = len) ∨ ∃ X kd, hi' = some X ∧ a.eval X = .int kd hz ∧ h = hz.toNat)
    (hl : (lo = none ∧ l = 0 ∧ lz = 0) ∨ ∃ X kd, lo = some X ∧ a.eval X = .int kd lz ∧ l = lz.toNat) (h0 : 0 ≤ lz) (h1 : lz ≤ hz) (h2 : h ≤ cap) :
    (Instr.sliceBounds isS len cap (lo.map a.eval) (hi'.map a.eval) none).run P w = .ok (l, h, cap) w := by
  unfold Instr.sliceBounds
  rcases hh with ⟨rfl, rfl, rfl⟩ | ⟨X, kd, rfl, e1, rfl⟩ <;> rcases hl with ⟨rfl, rfl, rfl⟩ | ⟨Y, kd', rfl, e2, rfl⟩
  · simp
  · simp only [Option.map_some, Option.map_none, e2, Instr.sliceBound, asIntOf, Sem.run_bind, Sem.run_pure, Result.andThen_ok, pure_bind, Sem.run_ite]
    rw [if_pos (by constructor <;> omega)]
    simp
  · simp only [Option.map_some, Option.map_none, e1, Instr.sliceBound, asIntOf, Sem.run_bind, Sem.run_pure, Result.andThen_ok, pure_bind, Sem.run_ite]
    rw [if_pos (by constructor <;> omega)]
    simp
  · simp only [Option.map_some, e1, e2, Instr.sliceBound, asIntOf, Sem.run_bind, Sem.run_pure, Result.andThen_ok, pure_bind, Sem.run_ite]
    rw [if_pos (by constructor <;> omega)]
    simp only [Sem.run_bind, Sem.run_pure, Result.andThen_ok, Sem.run_ite]
    rw [if_pos (by constructor <;> omega)]
    simp
/-- .. of a row whose cells are all known, up to where it ends. -/
def sliceF (P : Program) (t : TypeId) (st : St) (kk off len N : Nat) (lo hi : Option G) (k : G → Prop) : Prop :=
  match P.underlying t, st.rows.getD kk none with
  | some (.slice e), some xs => bif (P.info? e).isNone then False else boundP hi len fun h hz => boundP lo 0 fun l lz => (0 ≤ lz ∧ lz ≤ hz ∧ off + h ≤ xs.length ∧ off < xs.length ∧ ∀ r ∈ xs, r.length = P.cellsOf e) ∧ k (.ownf kk (off + l) (h - l) N)
  | _, _ => False
theorem sliceF_sound {t : TypeId} {kk off len N : Nat} {lo hi' : Option Operand} {k : G → Prop} (h : sliceF P t st kk off len N (lo.map st.ev) (hi'.map st.ev) k) (hi : Inv C F st a w) {u : Value} (hx : Rep C w (.ownf kk off len N) u) :
    ∃ g z, k g ∧ (Instr.sliceAt t u (lo.map a.eval) (hi'.map a.eval) none).run P w = .ok z w ∧ Rep C w g z := by
  unfold sliceF at h
  split at h
  · rename_i e xs hu hxs
    cases hin : (P.info? e).isNone with
    | true => rw [hin] at h; exact h.elim
    | false =>
      rw [hin] at h
      simp only [cond_false] at h
      obtain ⟨ii, hii⟩ : ∃ ii, P.info? e = some ii := by cases hq : P.info? e <;> simp_all
      cases hx with
      | ownf _ _ _ B s sz _ A hr ho hA hn0 =>
        obtain ⟨hh, hz, h, e1⟩ := boundP_run h hi
        obtain ⟨l, lz, ⟨⟨b1, b2, b3, b5, b4⟩, h⟩, e2⟩ := boundP_run h hi
        rcases hi.mem.row2 (rowsOf hxs) (fun km => km.np hr hn0) with ⟨k1, rfl⟩ | ⟨B', s', z', n', vs, T, fz, k1, k2, k3, k4, k5, k6, k6b, k7, k8⟩
        · simp at b5
        · rw [hr] at k1; cases k1
          have hlh : (hz : Int) = hh ∧ (lz : Int) = l ∧ l ≤ hh ∧ hh ≤ N - off := by
            rcases e1 with ⟨_, q1, q2⟩ | ⟨_, _, _, _, q1⟩ <;> rcases e2 with ⟨_, q3, q4⟩ | ⟨_, _, _, _, q3⟩ <;> omega
          have hx0 : xs[0]? = some (xs[0]'(by omega)) := List.getElem?_eq_getElem (by omega)
          have hsz : sz = P.cellsOf e := by rw [← (k7 _ (List.mem_of_getElem? hx0)).1]; exact b4 _ (List.mem_of_getElem? hx0)
          obtain rfl := hA.1 (by omega)
          refine ⟨_, .slice (if N - off = l then some ⟨B, s + off * sz, none⟩ else (some (⟨B, s + off * sz, none⟩ : Addr)).map (·.add (l * P.cellsOf e))) (hh - l) (N - off - l), h, ?_, ?_⟩
          · simp only [Instr.sliceAt, Instr.slice, Sem.run_bind, run_underlying hu, Result.andThen_ok]
            rw [run_boundsF (P := P) (a := a) (cap := N - off) e1 e2 b1 b2 (by omega)]
            simp only [Result.andThen_ok, Go.run_sizeOf w hii, Sem.run_pure, Sem.run_bind]
          · rw [show N - off - l = N - (off + l) from by omega]
            by_cases hl : N - off = l
            · rw [if_pos hl]
              exact .ownf kk (off + l) (hh - l) B s sz N _ hr (by omega) ⟨fun hlt => by omega, rfl, rfl⟩ hn0
            · rw [if_neg hl]
              simp only [Option.map_some, addr_add]
              exact .ownf kk (off + l) (hh - l) B s sz N _ hr (by omega) ⟨fun hlt => by rw [← hsz, Nat.add_mul, Nat.add_assoc], rfl, rfl⟩ hn0
  · exact h.elim
/-! Bytes as a string. -/
def bytesP (P : Program) (src dst : TypeId) (x : G) (st : St) (k : G → Prop) : Prop :=
  match P.underlying src, P.underlying dst with
  | some (.slice e), some .string => match P.underlying e with
    | some (.int .u8) => srcP st x fun ys => ∃ bs : List UInt8, ys = bs.map (fun b => [G.int .u8 b.toNat]) ∧ k (.str ⟨bs.toArray⟩)
    | _ => False
  | _, _ => False
theorem bytesP_sound {src dst : TypeId} {x : G} {k : G → Prop} (h : bytesP P src dst x st k) (hi : Inv C F st a w) {u : Value} (hx : Rep C w x u) (hs : ∀ s, x ≠ .str s) : ∃ g z, k g ∧ (convert src dst u).run P w = .ok z w ∧ Rep C w g z := by
  unfold bytesP at h
  split at h
  · rename_i e hu hd
    split at h
    · rename_i he
      have hcell : ∃ A n cap, u = .slice A n cap := by
        cases x with
        | str s => exact absurd rfl (hs s)
        | nils => cases hx; exact ⟨_, _, _, rfl⟩
        | emp => cases hx; exact ⟨_, _, _, rfl⟩
        | ne => cases hx; exact ⟨_, _, _, rfl⟩
        | sl => cases hx <;> exact ⟨_, _, _, rfl⟩
        | own => cases hx <;> exact ⟨_, _, _, rfl⟩
        | ownf => cases hx; exact ⟨_, _, _, rfl⟩
        | _ => simp [srcP] at h
      obtain ⟨ys, ⟨bs, hbs, h⟩, hlen, hread⟩ := src_sound (P := P) h hi hx (sz := 1) (by omega)
      have hys : ys.length = bs.length := by rw [hbs]; simp
      obtain ⟨ws, hws, hcw⟩ := hread (fun r hr => by
        rw [hbs] at hr
        obtain ⟨b, _, rfl⟩ := List.mem_map.1 hr
        exact ⟨rfl, fun g hg => by simp at hg; subst hg; rfl⟩)
      have hval : ws = (bs.map fun b => (b.toNat : Int)).map (Value.int .u8) := by
        apply List.ext_getElem?
        intro i
        by_cases hlt : i < bs.length
        · have h1 : ys[i]? = some [G.int .u8 (bs[i].toNat)] := by rw [hbs, List.getElem?_map, List.getElem?_eq_getElem hlt]; rfl
          have hwl : i < ws.length := by rw [hcw.len, hys]; omega
          have := hcw.rep i _ 0 _ ws[i] h1 rfl (by rw [Nat.mul_one, Nat.add_zero]; exact List.getElem?_eq_getElem hwl)
          rw [List.getElem?_eq_getElem hwl, this.int_inv]
          simp [List.getElem?_eq_getElem hlt]
        · rw [List.getElem?_eq_none (by rw [hcw.len, hys]; omega), List.getElem?_eq_none (by simp; omega)]
      obtain ⟨A, n, cap, rfl⟩ := hcell
      have hn : n = ys.length := by simpa [Builtin.lenOf] using hlen
      subst hn
      refine ⟨_, .string ⟨bs.toArray⟩, h, ?_, .str _⟩
      rw [run_convert_bytes_string w src dst e A _ cap hu he hd]
      have hf := hws w rfl
      cases A with
      | none =>
        simp only [Builtin.firstCells, Sem.run_pure] at hf
        have : bs = [] := by
          have h0 : ws = [] := by simpa using (Result.ok.inj hf).1.symm
          rw [h0] at hval
          simpa using hval
        subst this
        simp [Conv.bytesToString]
        rfl
      | some A =>
        simp only [Builtin.firstCells, Nat.mul_one] at hf
        rw [run_bytesToString w A ys.length cap (bs.map fun b => (b.toNat : Int)) (by rw [hf, hval]), foldl_push_byteCells]
        simp [ByteArray.empty, ByteArray.emptyWithCapacity]
        try rfl
    · exact h.elim
  · exact h.elim

/-! Pointers against nil, and against themselves. -/
def ptrEq (P : Program) (t : TypeId) (x y : G) : Option Bool :=
  match P.underlying t with
  | some (.pointer te) => match x, y with
    | .ptr b o, .ptr b' o' => bif (P.info? te).isSome && Nat.beq b b' && Nat.beq o o' then some true else none
    | .ptrt b _ _, .ptrt b' _ _ => bif (P.info? te).isSome && Nat.beq b b' then some true else none
    | .ptrt .., .lit (.pointer none) => some false
    | .ptr .., .lit (.pointer none) | .elt .., .lit (.pointer none) | .eltw .., .lit (.pointer none) => some false
    | .lit (.pointer none), .lit (.pointer none) => some true
    | _, _ => none
  | some (.slice _) => match x, y with
    | .nils, .nils => some true
    | .ne, .nils => some false
    | .sl (_ :: _), .nils => some false
    | _, _ => none
  | some (.interface _) => match x, y with
    | .lit (.iface ..), .lit .nilIface => some false
    | _, _ => none
  | some (.map _ _) => match x, y with
    | .mp .., .lit (.map none) => some false
    | .lit (.map none), .lit (.map none) => some true
    | _, _ => none
  | _ => none
theorem ptrEq_sound {t : TypeId} {x y : G} {b : Bool} (h : ptrEq P t x y = some b) {u v : Value} (hx : Rep C w x u) (hy : Rep C w y v) (X Y : Operand) :
    (do eqGuard .eql t X Y u v; binOp .eql t u v : Sem Value).run P w = .ok (.bool b) w ∧ (do eqGuard .neq t X Y u v; binOp .neq t u v : Sem Value).run P w = .ok (.bool !b) w := by
  have fin : ∀ u v, (∀ d, (Op.equalIn (d + 1) t u v).run P w = .ok b w) → (eqGuard .eql t X Y u v).run P w = .ok () w → (eqGuard .neq t X Y u v).run P w = .ok () w → binOp .eql t u v = (do pure (.bool (← Op.equal t u v)) : Sem Value) → binOp .neq t u v = (do pure (.bool !(← Op.equal t u v)) : Sem Value) →
      (do eqGuard .eql t X Y u v; binOp .eql t u v : Sem Value).run P w = .ok (.bool b) w ∧ (do eqGuard .neq t X Y u v; binOp .neq t u v : Sem Value).run P w = .ok (.bool !b) w := fun u v he g1 g2 b1 b2 => by
    have hq : (Op.equal t u v).run P w = .ok b w := he 9999
    constructor
    · rw [Sem.run_bind, g1, Result.andThen_ok, b1, Sem.run_bind, hq]; rfl
    · rw [Sem.run_bind, g2, Result.andThen_ok, b2, Sem.run_bind, hq]; rfl
  unfold ptrEq at h
  split at h
  · rename_i te hu
    split at h
    · rename_i b1 o1 b2 o2
      cases hc : (P.info? te).isSome && Nat.beq b1 b2 && Nat.beq o1 o2 with
      | false => rw [hc] at h; cases h
      | true =>
        rw [hc] at h
        cases h
        simp only [Bool.and_eq_true] at hc
        obtain ⟨⟨c1, c2⟩, c3⟩ := hc
        obtain ⟨j, hj⟩ := Option.isSome_iff_exists.1 c1
        obtain rfl := Nat.eq_of_beq_eq_true c2
        obtain rfl := Nat.eq_of_beq_eq_true c3
        cases hx with
        | ptr _ _ B hB =>
          cases hy with
          | ptr _ _ B' hB' =>
            rw [hB] at hB'; cases hB'
            exact fin _ _ (fun d => by simp [Op.equalIn, run_underlying hu, sizeOf, typeInfo, hj, run_sameAddr_same]) rfl rfl rfl rfl
    · rename_i b1 T1 n1 b2 T2 n2
      cases hc : (P.info? te).isSome && Nat.beq b1 b2 with
      | false => rw [hc] at h; cases h
      | true =>
        rw [hc] at h
        cases h
        simp only [Bool.and_eq_true] at hc
        obtain ⟨j, hj⟩ := Option.isSome_iff_exists.1 hc.1
        obtain rfl := Nat.eq_of_beq_eq_true hc.2
        cases hx with
        | ptrt _ _ _ B _ _ hB =>
          cases hy with
          | ptrt _ _ _ B' _ _ hB' =>
            rw [hB] at hB'; cases hB'
            exact fin _ _ (fun d => by simp [Op.equalIn, run_underlying hu, sizeOf, typeInfo, hj, run_sameAddr_same]) rfl rfl rfl rfl
    · cases h
      cases hx; cases hy
      exact fin _ _ (fun d => by simp [Op.equalIn, run_underlying hu]) rfl rfl rfl rfl
    · cases h
      cases hx; cases hy
      exact fin _ _ (fun d => by simp [Op.equalIn, run_underlying hu]) rfl rfl rfl rfl
    · cases h
      cases hx; cases hy
      exact fin _ _ (fun d => by simp [Op.equalIn, run_underlying hu]) rfl rfl rfl rfl
    · cases h
      cases hx; cases hy
      exact fin _ _ (fun d => by simp [Op.equalIn, run_underlying hu]) rfl rfl rfl rfl
    · cases h
      cases hx; cases hy
      exact fin _ _ (fun d => by simp [Op.equalIn, run_underlying hu]) rfl rfl rfl rfl
    · cases h
  · rename_i e hu
    split at h
    · cases h
      cases hx; cases hy
      exact fin _ _ (fun d => by simp [Op.equalIn, run_underlying hu]) rfl rfl rfl rfl
    · cases h
      cases hx; cases hy
      exact fin _ _ (fun d => by simp [Op.equalIn, run_underlying hu]) rfl rfl rfl rfl
    · cases h
      cases hx; cases hy
      exact fin _ _ (fun d => by simp [Op.equalIn, run_underlying hu]) rfl rfl rfl rfl
    · cases h
  · rename_i ms hu
    split at h
    · cases h
      cases hx; cases hy
      exact fin _ _ (fun d => by simp [Op.equalIn, run_underlying hu]) rfl rfl rfl rfl
    · cases h
  · rename_i kt et hu
    split at h
    · cases h
      cases hx; cases hy
      exact fin _ _ (fun d => by simp [Op.equalIn, run_underlying hu]) rfl rfl rfl rfl
    · cases h
      cases hx; cases hy
      exact fin _ _ (fun d => by simp [Op.equalIn, run_underlying hu]) rfl rfl rfl rfl
    · cases h
  · cases h
end

/-- 's[:0:0]': nothing, and no room behind it. -/
def cut0 : G → Option G
  | .nils => some .nils
  | .emp | .ne | .sl _ | .own .. => some .emp
  | _ => none
def cutP (P : Program) (t : TypeId) (x h m : G) (k : G → Prop) : Prop :=
  match P.underlying t, h, m, cut0 x with
  | some (.slice e), .int _ hn, .int _ mn, some g => bif (P.info? e).isSome then (hn = 0 ∧ mn = 0) ∧ k g else False
  | _, _, _, _ => False
theorem cutP_sound {P : Program} {C : Cx} {w : World} {t : TypeId} {x h m : G} {k : G → Prop} (hc : cutP P t x h m k) {u v z : Value} (hx : Rep C w x u) (hh : Rep C w h v) (hm : Rep C w m z) :
    ∃ g y, k g ∧ (Instr.sliceAt t u none (some v) (some z)).run P w = .ok y w ∧ Rep C w g y := by
  unfold cutP at hc
  split at hc
  · rename_i e k1 hn k2 mn g hu hg
    cases hi : (P.info? e).isSome with
    | false => rw [hi] at hc; exact hc.elim
    | true =>
      rw [hi] at hc
      obtain ⟨⟨rfl, rfl⟩, hk⟩ := hc
      obtain ⟨ii, hii⟩ := Option.isSome_iff_exists.1 hi
      obtain rfl := hh.int_inv
      obtain rfl := hm.int_inv
      have run : ∀ (A : Option Addr) (n cap : Nat), (Instr.sliceAt t (.slice A n cap) none (some (.int k1 0)) (some (.int k2 0))).run P w = .ok (.slice A 0 0) w := fun A n cap => by
        simp [Instr.sliceAt, Instr.slice, run_underlying hu, Instr.sliceBounds, Instr.sliceBound, asIntOf, Go.run_sizeOf w hii]
      cases x <;> simp only [cut0, Option.some.injEq] at hg <;> first | (cases hg; done) | skip
      · subst hg
        cases hx <;> exact ⟨_, _, hk, run _ _ _, .emp _⟩
      · subst hg; cases hx; exact ⟨_, _, hk, run _ _ _, .nils⟩
      · subst hg; cases hx; exact ⟨_, _, hk, run _ _ _, .emp _⟩
      · subst hg; cases hx; exact ⟨_, _, hk, run _ _ _, .emp _⟩
      · subst hg
        cases hx <;> exact ⟨_, _, hk, run _ _ _, .emp _⟩
  · exact hc.elim
/-- 's[l:h:m]' where it is looked at no more. -/
def cut3P (P : Program) (t : TypeId) (x l h m : G) (k : G → Prop) : Prop :=
  match P.underlying t, x, l, h, m with
  | some (.slice e), .ownf kk off len N, .int _ ln, .int _ hn, .int _ mn => bif (P.info? e).isSome then (0 ≤ ln ∧ ln ≤ hn ∧ hn ≤ mn ∧ mn ≤ (len : Int)) ∧ k .junk else False
  | _, _, _, _, _ => False
theorem cut3P_sound {P : Program} {C : Cx} {w : World} {t : TypeId} {x l h m : G} {k : G → Prop} (hc : cut3P P t x l h m k) {u q v z : Value} (hx : Rep C w x u) (hl : Rep C w l q) (hh : Rep C w h v) (hm : Rep C w m z) :
    ∃ g y, k g ∧ (Instr.sliceAt t u (some q) (some v) (some z)).run P w = .ok y w ∧ Rep C w g y := by
  unfold cut3P at hc
  split at hc
  · rename_i e kk off len N k1 ln k2 hn k3 mn hu
    cases he : (P.info? e).isSome with
    | false => rw [he] at hc; exact hc.elim
    | true =>
      rw [he] at hc
      obtain ⟨⟨c1, c2, c3, c4⟩, hc⟩ := hc
      obtain ⟨ii, hii⟩ := Option.isSome_iff_exists.1 he
      obtain rfl := hl.int_inv
      obtain rfl := hh.int_inv
      obtain rfl := hm.int_inv
      cases hx with
      | ownf _ _ _ B s sz _ A hr ho hA hn0 =>
        have hb : (Instr.sliceBounds true len (N - off) (some (.int k1 ln)) (some (.int k2 hn)) (some (.int k3 mn))).run P w = .ok (ln.toNat, hn.toNat, mn.toNat) w := by
          unfold Instr.sliceBounds
          simp only [Instr.sliceBound, asIntOf, Sem.run_bind, Sem.run_pure, Result.andThen_ok, pure_bind, Sem.run_ite]
          rw [if_pos (by constructor <;> omega)]
          simp only [Sem.run_bind, Sem.run_pure, Result.andThen_ok, Sem.run_ite]
          rw [if_pos (by constructor <;> omega)]
          simp only [Sem.run_bind, Sem.run_pure, Result.andThen_ok, Sem.run_ite]
          rw [if_pos (by constructor <;> omega)]
          simp
        refine ⟨.junk, .slice (if mn.toNat = ln.toNat then some A else some (A.add (ln.toNat * P.cellsOf e))) (hn.toNat - ln.toNat) (mn.toNat - ln.toNat), hc, ?_, .junk _⟩
        simp only [Instr.sliceAt, Instr.slice, Sem.run_bind, run_underlying hu, Result.andThen_ok, hb, Go.run_sizeOf w hii, Sem.run_pure, Option.map_some]
  · exact hc.elim
/-- '[]T{}': nothing, and not nil. -/
def noneP (P : Program) (t : TypeId) (k : G → Prop) : Prop :=
  match P.underlying t with
  | some (.slice e) => bif (P.info? e).isSome then k .emp else False
  | _ => False
theorem noneP_sound {P : Program} {C : Cx} {F : Fd} {st : St} {a : Act} {w : World} {t : TypeId} {k : G → Prop} (h : noneP P t k) (hi : Inv C F st a w) : ∃ z w', (Instr.buildSlice t 0 #[]).run P w = .ok z w' ∧ After F (fun g st' => k g ∧ st' = st) a z w' := by
  unfold noneP at h
  split at h
  · rename_i e hu
    cases hq : (P.info? e).isSome with
    | false => rw [hq] at h; exact h.elim
    | true =>
      rw [hq] at h
      obtain ⟨ii, hii⟩ := Option.isSome_iff_exists.1 hq
      refine ⟨.slice (some ⟨w.heap.size, 0, none⟩) 0 0, w.alloc (.cells #[] e), ?_, C, .emp, st, ⟨h, rfl⟩, hi.lt_alloc _, .emp _⟩
      simp [Instr.buildSlice, run_underlying hu, Go.run_sizeOf w hii, Instr.fill, newRow]
      congr 2
      exact Array.eq_empty_of_size_eq_zero (by simp)
  · exact h.elim
/-- A string as bytes: a new row. -/
def isAlloc (P : Program) (st : St) : Op → Bool
  | .convert _ dst x => match P.underlying dst, st.ev x with
    | some (.slice _), .str _ => true
    | _, _ => false
  | _ => false
def isNum : G → Bool
  | .int .. | .str _ => true
  | _ => false
def xop (P : Program) (d : Nat) (op : Op) (st : St) (k : G → St → Prop) : Prop :=
  match op with
  | .makeSlice t l c => makeP P d t (st.ev l) (st.ev c) st k
  | .store t p x => match st.ev p with
    | .eltw kk i off => storeW P t st kk i off (st.ev x) fun st' => k .junk st'
    | _ => vop P d (.store t p x) st k
  | .slice t x lo hi none => match st.ev x with
    | .own kk off len => sliceO P t st kk off len (lo.map st.ev) (hi.map st.ev) fun g => k g st
    | .ownf kk off len N => sliceF P t st kk off len N (lo.map st.ev) (hi.map st.ev) fun g => k g st
    | _ => vop P d (.slice t x lo hi none) st k
  | .slice t x none (some hh) (some m) => cutP P t (st.ev x) (st.ev hh) (st.ev m) fun g => k g st
  | .slice t x (some ll) (some hh) (some m) => cut3P P t (st.ev x) (st.ev ll) (st.ev hh) (st.ev m) fun g => k g st
  | .buildSlice t 0 ⟨[]⟩ => noneP P t fun g => k g st
  | .convert src dst x => bif isNum (st.ev x) then vop P d (.convert src dst x) st k else bytesP P src dst (st.ev x) st fun g => k g st
  | .binOp .eql t x y yt => match ptrEq P t (st.ev x) (st.ev y) with
    | some b => k (.bool b) st
    | none => vop P d (.binOp .eql t x y yt) st k
  | .binOp .neq t x y yt => match ptrEq P t (st.ev x) (st.ev y) with
    | some b => k (.bool !b) st
    | none => vop P d (.binOp .neq t x y yt) st k
  | op => vop P d op st k
theorem xop_sound {P : Program} {o : Oper} {d : Nat} {st : St} {k : G → St → Prop} {C : Cx} {F : Fd} {a : Act} {w : World} (h : xop P d o.op st k) (hi : Inv C F st a w) : Goes P o a w (After F k a) := by
  unfold xop at h
  split at h
  · rename_i t l c hop
    obtain ⟨z, w', h1, h2⟩ := makeP_sound h hi (hi.ev l) (hi.ev c)
    exact ⟨z, w', .inl (by cases o; simp only at hop; subst hop; simp [execOp, h1]), h2⟩
  · rename_i t p x hop
    split at h
    · rename_i kk i off hp
      have hr := hi.ev p
      rw [hp] at hr
      obtain ⟨st', w', h1, h2, h3⟩ := storeW_sound h hi hr (hi.ev x)
      exact ⟨undef, w', .inr ⟨by cases o; simp only at hop; subst hop; simp [execOp, h2], rfl⟩, C, _, _, h1, h3, .junk _⟩
    · exact vop_sound (by rw [hop]; exact h) hi
  · rename_i t x lo hi' hop
    split at h
    · rename_i kk off len hx
      have hr := hi.ev x
      rw [hx] at hr
      obtain ⟨g, z, h1, h2, h3⟩ := sliceO_sound h hi hr
      exact ⟨z, w, .inl (by cases o; simp only at hop; subst hop; simp [execOp, h2]), after_same hi h1 h3⟩
    · rename_i kk off len N hx
      have hr := hi.ev x
      rw [hx] at hr
      obtain ⟨g, z, h1, h2, h3⟩ := sliceF_sound h hi hr
      exact ⟨z, w, .inl (by cases o; simp only at hop; subst hop; simp [execOp, h2]), after_same hi h1 h3⟩
    · exact vop_sound (by rw [hop]; exact h) hi
  · rename_i t x hh m hop
    obtain ⟨g, z, h1, h2, h3⟩ := cutP_sound h (hi.ev x) (hi.ev hh) (hi.ev m)
    exact ⟨z, w, .inl (by cases o; simp only at hop; subst hop; simp [execOp, h2]), after_same hi h1 h3⟩
  · rename_i t x ll hh m hop
    obtain ⟨g, z, h1, h2, h3⟩ := cut3P_sound h (hi.ev x) (hi.ev ll) (hi.ev hh) (hi.ev m)
    exact ⟨z, w, .inl (by cases o; simp only at hop; subst hop; simp [execOp, h2]), after_same hi h1 h3⟩
  · rename_i t hop
    obtain ⟨z, w', h1, h2⟩ := noneP_sound h hi
    obtain ⟨C', g, s, ⟨q1, rfl⟩, q2, q3⟩ := h2
    exact ⟨z, w', .inl (by cases o; simp only at hop; subst hop; simp [execOp, h1]), C', g, _, q1, q2, q3⟩
  · rename_i src dst x hop
    cases hn : isNum (st.ev x) with
    | true => rw [hn] at h; simp only [cond_true] at h; exact vop_sound (d := d) (by rw [hop]; exact h) hi
    | false =>
      rw [hn] at h
      simp only [cond_false] at h
      obtain ⟨g, z, h1, h2, h3⟩ := bytesP_sound h hi (hi.ev x) (fun s e => by rw [e] at hn; cases hn)
      exact ⟨z, w, .inl (by cases o; simp only at hop; subst hop; simp [execOp, h2]), after_same hi h1 h3⟩
  · rename_i t x y yt hop
    split at h
    · rename_i b hb
      obtain ⟨h1, h2⟩ := ptrEq_sound hb (hi.ev x) (hi.ev y) x y
      refine ⟨_, w, .inl ?_, after_same hi h (.bool _)⟩
      cases o; simp only at hop; subst hop
      simp only [execOp]
      rw [Sem.run_bind, h1]; rfl
    · exact vop_sound (by rw [hop]; exact h) hi
  · rename_i t x y yt hop
    split at h
    · rename_i b hb
      obtain ⟨h1, h2⟩ := ptrEq_sound hb (hi.ev x) (hi.ev y) x y
      refine ⟨_, w, .inl ?_, after_same hi h (.bool _)⟩
      cases o; simp only at hop; subst hop
      simp only [execOp]
      rw [Sem.run_bind, h2]; rfl
    · exact vop_sound (by rw [hop]; exact h) hi
  · exact vop_sound h hi
end Go.Proofs.YtijohhdgecadnaaDoor.Av
namespace Go.Proofs.YtijohhdgecadnaaDoor.Av
open Go Go.RowKit
set_option linter.unusedVariables false
set_option linter.unusedSimpArgs false

def typedZ : List G → Option (List G)
  | [.lit (.pointer none), .nils] => some [.lit (.pointer none), .nilt]
  | _ => none
def okSz (P : Program) (t : TypeId) : Bool :=
  match P.info? t with
  | some j => !(Nat.beq j.size 0)
  | none => false
def allocT (P : Program) (d : Nat) (t : TypeId) (st : St) (k : G → St → Prop) : Prop :=
  match zeroCells P t with
  | some cs => match typedZ cs with
    | some cs' => bif Nat.blt d st.boxes.length && Nat.blt d st.slots.length then k (.ptrt d t cs'.length) (st.newBox d cs') else False
    | none => xop P d (.alloc t) st k
  | none => False
def convT (P : Program) (src dst : TypeId) (b : Nat) (T : TypeId) (n : Nat) (k : G → Prop) : Prop :=
  match P.underlying src, P.underlying dst with
  | some (.pointer t), some .unsafePointer => bif okSz P t && Nat.blt 0 n then k (.ptrt b T n) else False
  | some .unsafePointer, some (.pointer u) => bif (P.info? u).isSome then liesAt P P.depth T (n / P.cellsOf T) 0 u 1 = true ∧ k (.ptrt b T n) else False
  | _, _ => False
def dataT (gs : List G) (k : G → Prop) : Prop :=
  match gs with
  | [.nilt] => k (.lit (.pointer none))
  | [.ownt kk len T] => k (.datt kk T)
  | _ => False
def strT (P : Program) (gs : List G) (ts : List TypeId) (st : St) (k : G → St → Prop) : Prop :=
  match gs, ts with
  | [.lit (.pointer none), .int .i64 n], [_, _] => n = 0 ∧ k (.str ⟨#[]⟩) st
  | [.datt kk T, .int .i64 n], [pt, _] => match P.underlying pt, st.rows.getD kk none with
    | some (.pointer e), some xs => bif Nat.beq e T && Nat.beq (P.cellsOf e) 1 then
        ∃ bs : List UInt8, (n = (bs.length : Int) ∧ bs.length ≤ 9223372036854775807 ∧ xs.take bs.length = bs.map (fun b => [G.int .u8 b.toNat])) ∧ k (.str ⟨bs.toArray⟩) (st.killR kk)
      else False
    | _, _ => False
  | _, _ => False
/-- clear of an own row, or of a part of it. -/
def clearP (P : Program) (gs : List G) (ts : List TypeId) (st : St) (k : G → St → Prop) : Prop :=
  match gs, ts with
  | [.own kk off len], [t] => match P.underlying t, st.rows.getD kk none with
    | some (.slice e), some xs => match zeroCells P e with
      | some cs => bif cs.all G.closed0 && !(Nat.beq (P.cellsOf e) 0) then (off + len ≤ xs.length ∧ ∀ r ∈ xs, r.length = P.cellsOf e) ∧ k (.tup []) (st.setRow kk (xs.take off ++ List.replicate len cs ++ xs.drop (off + len))) else False
      | none => False
    | _, _ => False
  | _, _ => False
/-- A text as bytes: an own row; where there are none: nothing. -/
def toRowP (P : Program) (d : Nat) (src dst : TypeId) (s : ByteArray) (st : St) (k : G → St → Prop) : Prop :=
  match P.underlying src, P.underlying dst with
  | some .string, some (.slice e) => match P.underlying e with
    | some (.int .u8) => bif Nat.blt d st.rows.length && ovlK.isEmpty then (0 < s.size ∧ k (.own d 0 s.size) ((st.freeRow d).setRow d (s.data.toList.map fun b => [G.int .u8 b.toNat]))) ∨ (s.size = 0 ∧ k .ne st) else False
    | _ => False
  | _, _ => False
/-- The operations of xop, and these. -/
def uop (P : Program) (d : Nat) (op : Op) (st : St) (k : G → St → Prop) : Prop :=
  match op with
  | .alloc t => allocT P d t st k
  | .convert src dst x => match st.ev x with
    | .ptrt b T n => convT P src dst b T n fun g => k g st
    | .str s => (match P.underlying dst with
      | some (.slice _) => toRowP P d src dst s st k
      | _ => xop P d (.convert src dst x) st k)
    | _ => xop P d (.convert src dst x) st k
  | .call { callee := .builtin .unsafeSliceData, args, .. } => dataT (args.toList.map st.ev) fun g => k g st
  | .call { callee := .builtin .unsafeString, args, argTypes } => strT P (args.toList.map st.ev) argTypes.toList st k
  | .call { callee := .builtin .clear, args, argTypes } => clearP P ((args.toList.map st.ev).map ownG) argTypes.toList st k
  | op => xop P d op st k

theorem freeze_facts (w : World) (B n : Nat) : (w.freeze ⟨B, 0, none⟩ n).os = w.os ∧ (w.freeze ⟨B, 0, none⟩ n).tape = w.tape ∧ (w.freeze ⟨B, 0, none⟩ n).output = w.output ∧ (w.freeze ⟨B, 0, none⟩ n).heap.size = w.heap.size ∧ (∀ k, k ≠ B → (w.freeze ⟨B, 0, none⟩ n).heap[k]? = w.heap[k]?) ∧
    ∀ (k : Nat) (vs : Array Value) (T : TypeId) (fz : Nat × Nat), w.heap[k]? = some (.cells vs T fz) → ∃ vs' fz', (w.freeze ⟨B, 0, none⟩ n).heap[k]? = some (.cells vs' T fz') ∧ vs'.size = vs.size := by
  unfold World.freeze
  split
  · exact ⟨rfl, rfl, rfl, rfl, fun _ _ => rfl, fun k vs T fz h => ⟨vs, fz, h, rfl⟩⟩
  · refine ⟨rfl, rfl, rfl, by simp, fun k hk => ?_, fun k vs T fz h => ?_⟩
    · simp only [Array.getElem?_modify]; rw [if_neg (fun e => hk e.symm)]
    · simp only [Array.getElem?_modify]
      by_cases e : B = k
      · rw [if_pos e, h]
        obtain ⟨lo, hi⟩ := fz
        exact ⟨vs, _, rfl, rfl⟩
      · rw [if_neg e]; exact ⟨vs, fz, h, rfl⟩
section
variable {P : Program} {C : Cx} {F : Fd} {st : St} {a : Act} {w : World}
theorem map_one {α β : Type} {f : α → β} {l : List α} {y : β} (h : l.map f = [y]) : ∃ X, l = [X] ∧ f X = y := by
  cases l with
  | nil => cases h
  | cons X l => cases l with
    | nil => simp at h; exact ⟨X, rfl, h⟩
    | cons _ _ => simp at h
theorem map_two {α β : Type} {f : α → β} {l : List α} {y z : β} (h : l.map f = [y, z]) : ∃ X Y, l = [X, Y] ∧ f X = y ∧ f Y = z := by
  cases l with
  | nil => cases h
  | cons X l =>
    rw [List.map_cons, List.cons.injEq] at h
    obtain ⟨Y, rfl, h2⟩ := map_one h.2
    exact ⟨X, Y, rfl, h.1, h2⟩
theorem typedZ_some {cs cs' : List G} (h : typedZ cs = some cs') : cs = [.lit (.pointer none), .nils] ∧ cs' = [.lit (.pointer none), .nilt] := by
  unfold typedZ at h
  split at h
  · cases h; exact ⟨rfl, rfl⟩
  · cases h
theorem allocT_sound {d : Nat} {t : TypeId} {k : G → St → Prop} {o : Oper} (ho : o.op = .alloc t) (h : allocT P d t st k) (hi : Inv C F st a w) : Goes P o a w (After F k a) := by
  unfold allocT at h
  split at h
  · rename_i cs hz
    split at h
    · rename_i cs' hty
      obtain ⟨rfl, rfl⟩ := typedZ_some hty
      cases hlt : Nat.blt d st.boxes.length && Nat.blt d st.slots.length with
      | false => rw [hlt] at h; exact h.elim
      | true =>
        rw [hlt] at h
        simp only [Bool.and_eq_true] at hlt
        have hsl := Nat.le_of_ble_eq_true hlt.2
        obtain ⟨z, h1, h2, _, h3, h4⟩ := zeroCells_sound hz w
        obtain ⟨C', hI, hb⟩ := hi.newBox d (cs := [.lit (.pointer none), .nilt]) (Nat.le_of_ble_eq_true hlt.1) (by omega) t (by rw [h2]; rfl) h3 (fun i g v hg hv => by
          match i, hg with
          | 0, hg => exact h4 C w 0 g v hg hv
          | 1, hg =>
            obtain rfl : G.nilt = g := by simpa using hg
            have := (h4 C w 1 .nils v rfl hv).2
            cases this
            exact ⟨rfl, .nilt⟩)
        refine ⟨.pointer (some ⟨w.heap.size, 0, none⟩), w.alloc (.cells z.cells t), .inl ?_, C', _, _, h, hI, .ptrt d t _ _ z.cells (0, 0) hb (heap_alloc_new w _) (by rw [← Array.length_toList, h2]; rfl)⟩
        obtain ⟨dst, op, ty, pos, aft, gd⟩ := o
        simp only at ho; subst ho
        simp [execOp, Instr.alloc, h1, newVar, newRow]
    · exact xop_sound (by rw [ho]; exact h) hi
  · exact h.elim
theorem convT_sound {src dst : TypeId} {b : Nat} {T : TypeId} {n : Nat} {k : G → Prop} (h : convT P src dst b T n k) {u : Value} (hx : Rep C w (.ptrt b T n) u) : ∃ g z, k g ∧ (convert src dst u).run P w = .ok z w ∧ Rep C w g z := by
  cases hx with
  | ptrt _ _ _ B vs fz hb ht hn =>
    have hsh : w.shape? B = some (T, vs.size) := by unfold World.shape?; rw [ht]
    unfold convT at h
    split at h
    · rename_i t hs hd
      cases hc : okSz P t && Nat.blt 0 n with
      | false => rw [hc] at h; exact h.elim
      | true =>
        rw [hc] at h
        simp only [Bool.and_eq_true] at hc
        have hn0 : 0 < n := Nat.le_of_ble_eq_true hc.2
        have hsz := hc.1
        unfold okSz at hsz
        split at hsz
        · rename_i j hj
          have hj0 : j.size ≠ 0 := fun e => by rw [e] at hsz; cases hsz
          exact ⟨_, _, h, Lib.run_to_unsafe (P := P) w ⟨B, 0, none⟩ hs hd hj hj0 hsh (by show 0 < vs.size; omega), .ptrt b T n B vs fz hb ht hn⟩
        · cases hsz
    · rename_i u hs hd
      cases hc : (P.info? u).isSome with
      | false => rw [hc] at h; exact h.elim
      | true =>
        rw [hc] at h
        obtain ⟨j, hj⟩ := Option.isSome_iff_exists.1 hc
        obtain ⟨hl, h⟩ := h
        exact ⟨_, _, h, Lib.run_from_unsafe (P := P) w ⟨B, 0, none⟩ hs hd hj hsh (by rw [hn]; exact hl), .ptrt b T n B vs fz hb ht hn⟩
    · exact h.elim
theorem setRow_self {k : Nat} {xs : List (List G)} (h : st.rows[k]? = some (some xs)) : st.setRow k xs = st := by
  obtain ⟨hk, e⟩ := List.getElem?_eq_some_iff.1 h
  cases st with
  | mk s b r => simp only [St.setRow] at *; rw [← e, List.set_getElem_self]
theorem zeros_get {z : Array Value} {n i j : Nat} (hi : i < n) (hj : j < z.size) : (Builtin.zeroCells z n).toList[i * z.size + j]? = z.toList[j]? := by
  have hlt : i * z.size + j < n * z.size := mul_lt hi hj
  simp only [Builtin.zeroCells, Array.toList_map, List.getElem?_map, Array.toList_range, List.getElem?_range hlt, Option.map_some]
  rw [Nat.mul_comm, Nat.mul_add_mod, Nat.mod_eq_of_lt hj, getElem!_pos z j hj, Array.getElem?_toList, Array.getElem?_eq_getElem hj]
theorem clear_row {xs : List (List G)} {cs : List G} {off len i : Nat} (h : off + len ≤ xs.length) : (xs.take off ++ List.replicate len cs ++ xs.drop (off + len))[i]? = if off ≤ i ∧ i < off + len then some cs else xs[i]? := by
  have hl : (xs.take off).length = off := by simp; omega
  by_cases h1 : i < off
  · rw [if_neg (by omega), List.append_assoc, List.getElem?_append_left (by omega), List.getElem?_take, if_pos h1]
  · by_cases h2 : i < off + len
    · rw [if_pos (by omega), List.getElem?_append_left (by simp; omega), List.getElem?_append_right (by omega), hl, List.getElem?_replicate, if_pos (by omega)]
    · rw [if_neg (by omega), List.getElem?_append_right (by simp; omega), List.getElem?_drop]
      congr 1
      simp; omega
theorem clear_sound {gs : List G} {ts : List TypeId} {k : G → St → Prop} (h : clearP P gs ts st k) (hi : Inv C F st a w) {args : Array Operand} (hg : (args.toList.map st.ev).map ownG = gs) {ats : Array TypeId} (ht : ats.toList = ts) (ty : TypeId) :
    ∃ st' w', k (.tup []) st' ∧ (Builtin.clear_ ats ty (args.map a.eval)).run P w = .ok (.tuple #[]) w' ∧ Inv C F st' a w' := by
  unfold clearP at h
  split at h
  · rename_i kk off len t
    split at h
    · rename_i e xs hu hxs
      split at h
      · rename_i cs hcs
        cases hc : cs.all G.closed0 && !(Nat.beq (P.cellsOf e) 0) with
        | false => rw [hc] at h; exact h.elim
        | true =>
          rw [hc] at h
          simp only [Bool.and_eq_true, List.all_eq_true, Bool.not_eq_true'] at hc
          have hp : 0 < P.cellsOf e := Nat.pos_of_ne_zero (Nat.ne_of_beq_eq_false hc.2)
          obtain ⟨⟨hle, hxr⟩, h⟩ := h
          rw [List.map_map] at hg
          obtain ⟨X, hX, hXe⟩ := map_one hg
          simp only [Function.comp] at hXe
          have hr := (hi.ev X).ownG
          rw [hXe] at hr
          have e1 : ats = #[t] := by apply Array.toList_inj.1; simpa using ht
          subst e1
          generalize hv : a.eval X = v at hr
          have e0 : args.map a.eval = #[v] := by apply Array.toList_inj.1; simp [hX, hv]
          rw [e0]
          rcases Nat.eq_zero_or_pos len with h0 | hpos
          · subst h0
            have hself : xs.take off ++ List.replicate 0 cs ++ xs.drop (off + 0) = xs := by simp
            rw [hself, setRow_self (rowsOf hxs)] at h
            refine ⟨st, w, h, ?_, hi⟩
            cases hr with
            | own => simp [Builtin.clear_, run_underlying hu]
            | ownnil _ A _ => cases A <;> simp [Builtin.clear_, run_underlying hu]
          · cases hr with
            | ownnil => omega
            | own _ _ _ B s sz n A hr ho hA hn0 =>
              rcases hi.mem.row2 (rowsOf hxs) (fun km => km.np hr hn0) with ⟨k1, rfl⟩ | ⟨B', s', z', n', vs, T, fz, k1, k2, k3, k4, k5, k6, k6b, k7, k8⟩
              · simp at hle; omega
              · rw [hr] at k1; cases k1
                obtain ⟨z, z1, z2, z3, z4, z5⟩ := zeroCells_sound hcs w
                have hsz : sz = P.cellsOf e := by
                  have hx0 : xs[0]? = some (xs[0]'(by omega)) := List.getElem?_eq_getElem (by omega)
                  rw [← (k7 _ (List.mem_of_getElem? hx0)).1]; exact hxr _ (List.mem_of_getElem? hx0)
                subst hsz
                obtain rfl := hA.1 (by omega)
                have hzs : z.cells.size = P.cellsOf e := by rw [← Array.length_toList, z2, z3]
                have hzl : (Builtin.zeroCells z.cells len).toList.length = len * P.cellsOf e := by rw [zeros_len, hzs]
                have hfit : s + off * P.cellsOf e + len * P.cellsOf e ≤ vs.length := by
                  have : (off + len) * P.cellsOf e ≤ n * P.cellsOf e := Nat.mul_le_mul_right _ (by omega)
                  rw [Nat.add_mul] at this; omega
                have hz1 := zeros_one z4 (by omega) len
                obtain ⟨w', hw, hon⟩ := run_storeCells_on (P := P) B (s + off * P.cellsOf e) T fz (Builtin.zeroCells z.cells len).toList 0 vs w k3 (by rw [hzl]; omega) hz1 (fun o ho => k6 o (.inl ho))
                rw [Nat.add_zero] at hon
                refine ⟨_, w', h, ?_, hi.rowTo (rowsOf hxs) hr (by rw [blit_length]; exact k4) (fun o ho => k6 o (by rwa [blit_length] at ho)) (by simp; omega) (fun v hv => ?_) (fun r hm => ?_) (fun i r j g v a1 a2 a3 => ?_) hon⟩
                · obtain ⟨m, rfl⟩ : ∃ m, len = m + 1 := ⟨len - 1, by omega⟩
                  simp [Builtin.clear_, run_underlying hu, z1, hw]
                · obtain ⟨j, hj⟩ := List.mem_iff_getElem?.1 hv
                  rw [blit_get _ _ _ _ (by rw [hzl]; exact hfit)] at hj
                  split at hj
                  · exact hz1 v (List.mem_of_getElem? hj)
                  · exact k6b v (List.mem_of_getElem? hj)
                · obtain ⟨i, hi'⟩ := List.mem_iff_getElem?.1 hm
                  rw [clear_row hle] at hi'
                  split at hi'
                  · cases hi'; exact ⟨z3, fun g hg' => hc.1 g hg'⟩
                  · exact k7 r (List.mem_of_getElem? hi')
                · rw [blit_get _ _ _ _ (by rw [hzl]; exact hfit), hzl] at a3
                  rw [clear_row hle] at a1
                  split at a1
                  · rename_i hin
                    cases a1
                    have hj : j < P.cellsOf e := by rw [← z3]; exact (List.getElem?_eq_some_iff.1 a2).1
                    have hm := mul_lt (n := len) (show i - off < len by omega) hj
                    have hs : s + i * P.cellsOf e + j = s + off * P.cellsOf e + ((i - off) * P.cellsOf e + j) := by
                      have : i * P.cellsOf e = off * P.cellsOf e + (i - off) * P.cellsOf e := by rw [← Nat.add_mul]; congr 1; omega
                      omega
                    rw [hs, if_pos (by omega), Nat.add_sub_cancel_left] at a3
                    rw [← hzs] at a3
                    rw [zeros_get (by omega) (by omega)] at a3
                    exact (z5 C w j g v a2 a3).2
                  · rename_i hin
                    have hj : j < P.cellsOf e := by rw [← (k7 r (List.mem_of_getElem? a1)).1]; exact (List.getElem?_eq_some_iff.1 a2).1
                    rw [if_neg (by
                      intro hc'
                      by_cases h1 : i < off
                      · have : (i + 1) * P.cellsOf e ≤ off * P.cellsOf e := Nat.mul_le_mul_right _ h1
                        rw [Nat.succ_mul] at this; omega
                      · have : (off + len) * P.cellsOf e ≤ i * P.cellsOf e := Nat.mul_le_mul_right _ (by omega)
                        rw [Nat.add_mul] at this; omega)] at a3
                    exact k8 i r j g v a1 a2 a3
      · exact h.elim
    · exact h.elim
  · exact h.elim
theorem toRowP_sound {d : Nat} {src dst : TypeId} {s : ByteArray} {k : G → St → Prop} (h : toRowP P d src dst s st k) (hi : Inv C F st a w) :
    ∃ z w', (convert src dst (.string s)).run P w = .ok z w' ∧ After F k a z w' := by
  unfold toRowP at h
  split at h
  · rename_i e hs hd
    split at h
    · rename_i he
      cases hq : Nat.blt d st.rows.length && ovlK.isEmpty with
      | false => rw [hq] at h; exact h.elim
      | true =>
        rw [hq] at h
        rw [Bool.and_eq_true] at hq
        have q3 := Nat.le_of_ble_eq_true hq.1
        have hrun := run_bytes_of_string (P := P) w src dst e s hs hd he
        have hge := grownCap_ge w s.size 0 e
        generalize grownCap w s.size 0 e = cap at hrun hge
        simp only [cond_true] at h
        rcases h with ⟨h0, h⟩ | ⟨h0, h⟩
        · obtain ⟨C1, hI1, hk1, hbx, hex, hrw, _⟩ := hi.drew.freeRow d
          have hlt1 : d < (st.freeRow d).rows.length := by rw [freeRow_len]; exact q3
          have hds : s.data.toList.length = s.size := by rw [Array.length_toList]; rfl
          have hlen : (bytesRow s cap).toList.length = s.size + (cap - s.size) := by rw [Array.length_toList]; unfold bytesRow; rw [Array.size_append, Array.size_map, Array.size_replicate]; rfl
          have hint : ∀ v ∈ (bytesRow s cap).toList, ∃ n, v = .int .u8 n := fun v hv => by
            simp only [bytesRow, Array.toList_append, Array.toList_map, Array.toList_replicate, List.mem_append, List.mem_map] at hv
            rcases hv with ⟨b, _, rfl⟩ | hv
            · exact ⟨_, rfl⟩
            · exact ⟨_, List.eq_of_mem_replicate hv⟩
          obtain ⟨C2, hI2, hk2⟩ := hI1.newRow (k := d) hk1 hlt1 (sz := 1) (n := cap) (vs := (bytesRow s cap).toList) (T := e) (fz := ((bytesRow s cap).size, (bytesRow s cap).size + 1)) (xs := s.data.toList.map fun b => [G.int .u8 b.toNat])
            (by rw [hlen]; omega) (by rw [List.length_map, hds]; omega) (fun v hv => by obtain ⟨n, rfl⟩ := hint v hv; rfl) (fun o ho => by
              rcases ho with ho | ho
              · rw [Array.length_toList] at ho; simp only; omega
              · rw [hq.2] at ho; cases ho)
            (fun r hr => by obtain ⟨b, _, rfl⟩ := List.mem_map.1 hr; exact ⟨rfl, fun g hg => by simp at hg; subst hg; rfl⟩)
            (fun i r j g v a1 a2 a3 => by
              rw [List.getElem?_map] at a1
              obtain ⟨b, hb, rfl⟩ := Option.map_eq_some_iff.1 a1
              match j with
              | 0 =>
                simp at a2
                subst a2
                have hlt : i < s.data.size := by have := (List.getElem?_eq_some_iff.1 hb).1; simpa using this
                have := bytesRow_at s cap i hlt
                rw [Nat.mul_one, Nat.add_zero, Array.getElem?_toList, this] at a3
                cases a3
                rw [Array.getElem?_toList, Array.getElem?_eq_getElem hlt] at hb
                cases hb
                exact .int _ _
              | j + 1 => simp at a2)
          refine ⟨_, _, hrun, C2, _, _, h, hI2, ?_⟩
          have := Rep.own (C := C2) (w := w.drew.alloc (.cells (bytesRow s cap) e ((bytesRow s cap).size, (bytesRow s cap).size + 1))) d 0 s.size w.heap.size 0 1 cap ⟨w.heap.size, 0, none⟩ hk2 (by omega) ⟨fun _ => rfl, rfl, rfl⟩ (by omega)
          exact this
        · exact ⟨_, _, hrun, C, _, _, h, hi.drew.lt_alloc _, by rw [h0]; exact .ne _ _⟩
    · exact h.elim
  · exact h.elim
theorem uop_sound {o : Oper} {d : Nat} {k : G → St → Prop} (h : uop P d o.op st k) (hi : Inv C F st a w) : Goes P o a w (After F k a) := by
  unfold uop at h
  split at h
  · rename_i t hop
    exact allocT_sound hop h hi
  · rename_i src dst x hop
    split at h
    · rename_i b T n hx
      have hr := hi.ev x
      rw [hx] at hr
      obtain ⟨g, z, h1, h2, h3⟩ := convT_sound h hr
      exact ⟨z, w, .inl (by cases o; simp only at hop; subst hop; simp [execOp, h2]), after_same hi h1 h3⟩
    · rename_i s hx
      split at h
      · obtain ⟨z, w', h1, h2⟩ := toRowP_sound h hi
        have hr := hi.ev x
        rw [hx] at hr
        have hr := hr.str_inv
        exact ⟨z, w', .inl (by cases o; simp only at hop; subst hop; simp [execOp, hr, h1]), h2⟩
      · exact xop_sound (by rw [hop]; exact h) hi
    · exact xop_sound (by rw [hop]; exact h) hi
  · rename_i args ats hop
    unfold dataT at h
    split at h
    · rename_i heq
      obtain ⟨X, hX, hXe⟩ := map_one heq
      have hr := hi.ev X
      rw [hXe] at hr
      generalize hv : a.eval X = v at hr
      cases hr
      refine ⟨.pointer none, w, .inl ?_, after_same hi h (.lit _ rfl)⟩
      have e0 : args.map a.eval = #[.slice none 0 0] := by apply Array.toList_inj.1; simp [hX, hv]
      obtain ⟨dst, op, ty, pos, aft, gd⟩ := o
      simp only at hop; subst hop
      simp only [execOp, resolve, Sem.run_bind, Sem.run_pure, Result.andThen_ok, invoke, builtin, e0]
      rfl
    · rename_i kk len T heq
      obtain ⟨X, hX, hXe⟩ := map_one heq
      have hr := hi.ev X
      rw [hXe] at hr
      generalize hv : a.eval X = v at hr
      have e0 : args.map a.eval = #[v] := by apply Array.toList_inj.1; simp [hX, hv]
      obtain ⟨dst, op, ty, pos, aft, gd⟩ := o
      simp only at hop; subst hop
      cases hr with
      | ownt _ _ _ B n vs fz hk ho ht =>
        have hn : n ≠ 0 := by
          obtain ⟨xs, hxs⟩ := hi.mem.domR kk _ hk
          rcases hi.mem.row2 hxs (fun km => km.nT hk ht) with ⟨k1, _⟩ | ⟨B', s', sz', n', vs', T', fz', k1, _, _, _, k5, _⟩
          · rw [hk] at k1; cases k1
          · rw [hk] at k1; cases k1; omega
        refine ⟨.pointer (some ⟨B, 0, none⟩), w, .inl ?_, after_same hi h (.datt kk T B n vs fz hk ht)⟩
        simp only [execOp, resolve, Sem.run_bind, Sem.run_pure, Result.andThen_ok, invoke, builtin, e0]
        rw [Lib.run_unsafeSliceData_row w ats ty ⟨B, 0, none⟩ len n hn]
        rfl
      | owntnil _ _ hk =>
        refine ⟨.pointer none, w, .inl ?_, after_same hi h (.dattnil kk T hk)⟩
        simp only [execOp, resolve, Sem.run_bind, Sem.run_pure, Result.andThen_ok, invoke, builtin, e0]
        rfl
    · exact h.elim
  · rename_i args ats hop
    unfold strT at h
    split at h
    · rename_i n t1 t2 heq hts
      obtain ⟨X, Y, hX, hXe, hYe⟩ := map_two heq
      have hr := hi.ev X
      have hr2 := hi.ev Y
      rw [hXe] at hr
      rw [hYe] at hr2
      obtain ⟨rfl, h⟩ := h
      have e0 : args.map a.eval = #[.pointer none, .int .i64 0] := by
        apply Array.toList_inj.1
        have h1 : a.eval X = .pointer none := by generalize a.eval X = v at hr; cases hr; rfl
        simp [hX, h1, hr2.int_inv]
      have e1 : ats = #[t1, t2] := by apply Array.toList_inj.1; simpa using hts
      obtain ⟨dst, op, ty, pos, aft, gd⟩ := o
      simp only at hop; subst hop
      refine ⟨.string .empty, w, .inl ?_, after_same hi h (.str _)⟩
      subst e1
      simp only [execOp, resolve, Sem.run_bind, Sem.run_pure, Result.andThen_ok, invoke, builtin, e0]
      rw [Lib.run_unsafeString_none w t1 t2 ty none]
      rfl
    · rename_i kk T n pt it heq hts
      split at h
      · rename_i e xs hpt hxs
        cases hc : Nat.beq e T && Nat.beq (P.cellsOf e) 1 with
        | false => rw [hc] at h; exact h.elim
        | true =>
          rw [hc] at h
          simp only [Bool.and_eq_true] at hc
          obtain rfl := Nat.eq_of_beq_eq_true hc.1
          have hce := Nat.eq_of_beq_eq_true hc.2
          obtain ⟨bs, ⟨rfl, hbl, hbx⟩, h⟩ := h
          obtain ⟨X, Y, hX, hXe, hYe⟩ := map_two heq
          have hr := hi.ev X
          have hr2 := hi.ev Y
          rw [hXe] at hr
          rw [hYe] at hr2
          generalize hv : a.eval X = v at hr
          have e0 : args.map a.eval = #[v, .int .i64 (bs.length : Int)] := by
            apply Array.toList_inj.1
            simp [hX, hv, hr2.int_inv]
          have e1 : ats = #[pt, it] := by apply Array.toList_inj.1; simpa using hts
          have hkill := hi.killR kk
          obtain ⟨dst, op, ty, pos, aft, gd⟩ := o
          simp only at hop; subst hop
          subst e1
          have hnil : bs = [] → ∀ q, v = .pointer q → Goes P ⟨dst, .call { callee := .builtin .unsafeString, args, argTypes := #[pt, it] }, ty, pos, aft, gd⟩ a w (After F k a) := fun hb0 q hq => by
            subst hb0
            subst hq
            refine ⟨.string .empty, w, .inl ?_, C.noR kk, _, _, h, hkill, .str _⟩
            simp only [execOp, resolve, Sem.run_bind, Sem.run_pure, Result.andThen_ok, invoke, builtin, e0]
            rw [show ((([] : List UInt8).length : Nat) : Int) = 0 from rfl, Lib.run_unsafeString_none w pt it ty q]
            rfl
          cases hr with
          | dattnil _ _ hk =>
            refine hnil ?_ none rfl
            rcases hi.mem.row2 (rowsOf hxs) (fun km => km.nn hk) with ⟨_, rfl⟩ | ⟨B', s', sz', n', vs', T', fz', k1, _⟩
            · cases bs with
              | nil => rfl
              | cons b bs => simp at hbx
            · rw [hk] at k1; cases k1
          | datt _ _ B n vs0 fz0 hk ht =>
            by_cases hb0 : bs = []
            · exact hnil hb0 _ rfl
            rcases hi.mem.row2 (rowsOf hxs) (fun km => km.nT hk ht) with ⟨k1, _⟩ | ⟨B', s', sz', n', vs, T', fz, k1, k2, k3, k4, k5, k6, k6b, k7, k8⟩
            · rw [hk] at k1; cases k1
            rw [hk] at k1; cases k1
            rw [ht] at k3
            simp only [Option.some.injEq, Obj.cells.injEq] at k3
            obtain ⟨rfl, rfl, rfl⟩ := k3
            have hxl : bs.length ≤ xs.length := by
              have := congrArg List.length hbx
              rw [List.length_take, List.length_map] at this; omega
            have hsh : w.shape? B = some (e, vs.length) := by unfold World.shape?; rw [ht]; simp
            have hcell : ∀ j x, bs[j]? = some x → w.cell? ((⟨B, 0, none⟩ : Addr).add j) = some (.int .u8 x.toNat) := fun j x hj => by
              have hjl : j < bs.length := (List.getElem?_eq_some_iff.1 hj).1
              have hxj : xs[j]? = some [G.int .u8 x.toNat] := by
                have := congrArg (fun l => l[j]?) hbx
                simp only [List.getElem?_take, List.getElem?_map, hj] at this
                rw [if_pos hjl] at this
                simpa using this
              rw [addr_add, Nat.zero_add, cell_of_block ht]
              have hvl : j < vs.length := by omega
              have hvj : vs[0 + j * 1 + 0]? = some vs[j] := by rw [show 0 + j * 1 + 0 = j from by omega]; exact List.getElem?_eq_getElem hvl
              have := k8 j _ 0 _ _ hxj rfl hvj
              rw [List.getElem?_eq_getElem hvl, this.int_inv]
            obtain ⟨f1, f2, f3, f4, f5, f6⟩ := freeze_facts w B bs.length
            have hBt := hi.tr kk B 0 1 n hk
            have hI : Inv (C.noR kk) F (st.killR kk) a (w.freeze ⟨B, 0, none⟩ bs.length) :=
              hkill.step ⟨f1.trans hi.fr.os, f2.trans hi.fr.tape, f3.trans hi.fr.output, by rw [f4]; exact hi.fr.size, fun B' hB' hn' => by
                  rw [f5 B' (fun e => by subst e; rcases hBt with hBt | hBt; exact hn' hBt; omega)]; exact hi.fr.block B' hB' hn',
                  fun B' vs' T' fz' h' => by obtain ⟨v1, z1, g1, g2⟩ := hi.fr.ty _ _ _ _ h'; obtain ⟨v2, z2, g3, g4⟩ := f6 _ _ _ _ g1; exact ⟨v2, z2, g3, g4.trans g2⟩⟩
                ⟨by rw [f4]; exact Nat.le_refl _, fun B' _ hn' => f5 B' (fun e => hn' (e ▸ k2)), f6⟩
                (fun b B' hb => f5 B' (fun e => hi.mem.br b kk B' _ _ _ hb (e ▸ hk)))
                (fun k' B' s' z' n' hk' => f5 B' (fun e => by
                  have hk2 : (if k' = kk then none else C.row k') = some (some (B', s', z', n')) := hk'
                  split at hk2
                  · cases hk2
                  · rename_i hne; exact hne (hi.mem.rr k' kk B' _ _ _ _ _ _ hk2 (e ▸ hk))))
                (C.noR kk).ex (fun _ h => h) (fun _ h => .inl h) (fun B' hB' => by rw [f4]; exact hi.mem.lt B' hB')
            refine ⟨.string ⟨bs.toArray⟩, _, .inl ?_, C.noR kk, _, _, h, hI, .str _⟩
            simp only [execOp, resolve, Sem.run_bind, Sem.run_pure, Result.andThen_ok, invoke, builtin, e0]
            rw [Lib.run_unsafeString_row w pt it ty e hpt hce B vs.length hsh bs hb0 (by omega) hbl hcell]
            rfl
      · exact h.elim
    · exact h.elim
  · rename_i args ats hop
    obtain ⟨dst, op, ty, pos, aft, gd⟩ := o
    simp only at hop; subst hop
    obtain ⟨st', w', h1, h2, h3⟩ := clear_sound h hi rfl rfl ty
    refine ⟨.tuple #[], w', .inl ?_, C, _, _, h1, h3, .tup [] [] rfl (fun i g v hg => by cases hg)⟩
    simp only [execOp, resolve, Sem.run_bind, Sem.run_pure, Result.andThen_ok, invoke, builtin, h2]
  · exact xop_sound h hi
end
end Go.Proofs.YtijohhdgecadnaaDoor.Av
