/- One text out of several: Av7e, Av7f, Av8b, Av8q, Av10, Av11. No condition but theirs. -/
import Derived.MapKept
import Derived.Lib.Overlaps
import Derived.OrdersIn
import Derived.TacticsIn
import Derived.LoopNIn
import Derived.Laws.Externs
import Derived.Test.YtijohhdgecadnaaDoorZHeaderFormats2
namespace Go.Proofs.YtijohhdgecadnaaDoor.Av
open Go Go.RowKit
set_option linter.unusedVariables false
set_option linter.unusedSimpArgs false
/-- Which written-out rows become own rows (a list of the seat's own: the slot, and how many elements). -/
def bldK : List (Nat × Nat) := []
def bldB (o : Oper) : Bool :=
  match o.op, o.dst with
  | .buildSlice _ len _, some d => bldK.any fun p => Nat.beq p.1 d && Nat.beq p.2 len
  | _, _ => false
def bldP (P : Program) (d : Nat) (t : TypeId) (len : Nat) (parts : Array (Nat × Operand)) (st : St) (k : G → St → Prop) : Prop :=
  match P.underlying t with
  | some (.slice e) => match zeroCells P e with
    | some zc => bif (P.cellsOf e == 0) || !(Nat.ble (len * P.cellsOf e) 16777216) || !(Nat.blt 0 len && Nat.blt d st.rows.length) then False else
      match buildCells (fun i => some (i * P.cellsOf e, P.cellsOf e)) st (repCells len (P.cellsOf e) zc) parts.toList with
      | some gs => bif gs.all G.closed0 then fLL (chunk len (P.cellsOf e) gs) fun xs => k (.own d 0 len) ((st.freeRow d).setRow d xs) else False
      | none => False
    | none => False
  | _ => False
section
variable {P : Program} {C : Cx} {F : Fd} {st : St} {a : Act} {w : World}
theorem build_run {t e : TypeId} {len : Nat} {parts : Array (Nat × Operand)} {zc gs : List G} (hu : P.underlying t = some (.slice e)) (hz : zeroCells P e = some zc) (hn : 0 < P.cellsOf e) (hle : len * P.cellsOf e ≤ 16777216)
    (hb : buildCells (fun i => some (i * P.cellsOf e, P.cellsOf e)) st (repCells len (P.cellsOf e) zc) parts.toList = some gs) (hcl : ∀ g ∈ gs, g.closed0 = true) (hi : Inv C F st a w) :
    ∃ us : List Value, (Instr.buildSlice t len (parts.map fun (i, x) => (i, a.eval x))).run P w = .ok (.slice (some ⟨w.heap.size, 0, none⟩) len len) (w.alloc (.cells ⟨us⟩ e)) ∧ RepL C w gs us ∧ us.length = len * P.cellsOf e ∧ gs.length = len * P.cellsOf e := by
  obtain ⟨z, h1, h2, h2b, h3, h4⟩ := zeroCells_sound hz w
  obtain ⟨ii, hii⟩ : ∃ ii, P.info? e = some ii := by
    unfold Program.cellsOf at hn
    cases hi0 : P.info? e with
    | none => rw [hi0] at hn; simp at hn
    | some i => exact ⟨i, rfl⟩
  have hzs : z.cells.size = P.cellsOf e := by rw [← Array.length_toList, h2, h2b]
  let vs : List Value := (List.range (len * P.cellsOf e)).map fun i => z.cells[i % z.cells.size]!
  have hvs : ∀ (i : Nat) v, vs[i]? = some v → i < len * P.cellsOf e ∧ z.cells.toList[i % P.cellsOf e]? = some v := fun i v hv => by
    have hlt : i < len * P.cellsOf e := by have := (List.getElem?_eq_some_iff.1 hv).1; simpa [vs] using this
    refine ⟨hlt, ?_⟩
    simp [vs, List.getElem?_map, List.getElem?_range hlt] at hv
    have hm : i % z.cells.size < z.cells.size := Nat.mod_lt _ (by omega)
    rw [getElem!_pos z.cells _ hm] at hv
    rw [← hzs, ← hv]
    simp [Array.getElem_toList]
  have hrl : RepL C w (repCells len (P.cellsOf e) zc) vs := by
    refine ⟨by simp [vs, repCells], fun v hv => ?_, fun i g v hg hv => ?_⟩
    · obtain ⟨i, hi0⟩ := List.mem_iff_getElem?.1 hv
      exact h3 v (List.mem_of_getElem? (hvs i v hi0).2)
    · obtain ⟨hlt, hzv⟩ := hvs i v hv
      simp only [repCells, List.getElem?_map, List.getElem?_range hlt, Option.map_some, Option.some.injEq] at hg
      have hm : i % P.cellsOf e < zc.length := by rw [h2b]; exact Nat.mod_lt _ hn
      rw [List.getD_eq_getElem?_getD, List.getElem?_eq_getElem hm] at hg
      exact (h4 C w (i % P.cellsOf e) g v (by rw [List.getElem?_eq_getElem hm, ← hg]; rfl) hzv).2
  have hrc : ∀ g ∈ repCells len (P.cellsOf e) zc, g.cell = true := fun g hg => by
    simp only [repCells, List.mem_map, List.mem_range] at hg
    obtain ⟨i, _, rfl⟩ := hg
    have hm : i % P.cellsOf e < zc.length := by rw [h2b]; exact Nat.mod_lt _ hn
    have hm2 : i % P.cellsOf e < z.cells.toList.length := by rw [h2]; exact hm
    rw [List.getD_eq_getElem?_getD, List.getElem?_eq_getElem hm]
    exact (h4 C w _ _ _ (List.getElem?_eq_getElem hm) (List.getElem?_eq_getElem hm2)).1
  obtain ⟨us, h5, h6, h7⟩ := fill_sound (fun i => some (i * P.cellsOf e, P.cellsOf e)) hi parts.toList _ gs vs hb hrl hrc
  have hgl : gs.length = len * P.cellsOf e := by
    have fl : ∀ (ps : List (Nat × Operand)) (cs gs : List G), buildCells (fun i => some (i * P.cellsOf e, P.cellsOf e)) st cs ps = some gs → gs.length = cs.length := by
      intro ps
      induction ps with
      | nil => intro cs gs hg; rw [buildCells] at hg; cases hg; rfl
      | cons p ps ih =>
        intro cs gs hg
        obtain ⟨i, x⟩ := p
        rw [buildCells] at hg
        split at hg
        · cases hg
        · split at hg
          · rw [fL_eq] at hg; rw [ih _ _ hg, blit_length]
          · cases hg
    rw [fl _ _ _ hb]; simp [repCells]
  have hul : us.length = len * P.cellsOf e := by rw [h6.1, hgl]
  refine ⟨us, ?_, h6, hul, hgl⟩
  show (Instr.buildSlice t len (parts.map fun (q : Nat × Operand) => (q.1, a.eval q.2))).run P w = _
  simp only [Instr.buildSlice]
  have e1 : parts.map (fun (q : Nat × Operand) => (q.1, a.eval q.2)) = (parts.toList.map (fun (q : Nat × Operand) => (q.1, a.eval q.2))).toArray := by apply Array.toList_inj.1; simp
  simp only [Sem.run_bind, run_underlying hu, Result.andThen_ok, Go.run_sizeOf w hii, Sem.run_ite]
  rw [if_neg (by omega), e1]
  have h5' : Instr.fill (fun i => some (i * P.cellsOf e, P.cellsOf e)) ⟨vs⟩ (parts.toList.map fun (q : Nat × Operand) => (q.1, a.eval q.2)) = some ⟨us⟩ := h5
  have hvsz : ((Array.range (len * P.cellsOf e)).map (fun i => z.cells[i % z.cells.size]!)) = ⟨vs⟩ := by
    apply Array.toList_inj.1; simp [vs]
  by_cases h0 : len * P.cellsOf e = 0
  · rw [if_pos h0]
    have e2 : (Array.range (len * P.cellsOf e)).map (fun x => (#[] : Array Value)[x % (#[] : Array Value).size]!) = ⟨vs⟩ := by
      apply Array.toList_inj.1; simp [vs, h0]
    simp only [Sem.run_pure, Result.andThen_ok]
    rw [e2, h5']
    rfl
  · rw [if_neg h0]
    simp only [Sem.run_bind, h1, Result.andThen_ok, Sem.run_pure]
    rw [hvsz, h5']
    rfl

theorem chunk_get {len n : Nat} {gs : List G} {i : Nat} {r : List G} (h : (chunk len n gs)[i]? = some r) : i < len ∧ r = (gs.drop (i * n)).take n := by
  have hlt : i < len := by have := (List.getElem?_eq_some_iff.1 h).1; simpa [chunk] using this
  simp [chunk, List.getElem?_map, List.getElem?_range hlt] at h
  exact ⟨hlt, h.symm⟩
theorem bld_sound {d : Nat} {t : TypeId} {len : Nat} {parts : Array (Nat × Operand)} {k : G → St → Prop} (h : bldP P d t len parts st k) (hi : Inv C F st a w) :
    ∃ z w', (Instr.buildSlice t len (parts.map fun (i, x) => (i, a.eval x))).run P w = .ok z w' ∧ After F k a z w' := by
  unfold bldP at h
  split at h
  · rename_i e hu
    split at h
    · rename_i zc hz
      cases hq : (P.cellsOf e == 0) || !(Nat.ble (len * P.cellsOf e) 16777216) || !(Nat.blt 0 len && Nat.blt d st.rows.length) with
      | true => rw [hq] at h; exact h.elim
      | false =>
        rw [hq] at h
        simp only [Bool.or_eq_false_iff, beq_eq_false_iff_ne, Bool.not_eq_false', Bool.and_eq_true] at hq
        obtain ⟨⟨q1, q2⟩, q3, q4⟩ := hq
        have hle := Nat.le_of_ble_eq_true q2
        have hn : 0 < P.cellsOf e := Nat.pos_of_ne_zero q1
        have hlen : 0 < len := Nat.le_of_ble_eq_true q3
        have hd : d < st.rows.length := Nat.le_of_ble_eq_true q4
        simp only [cond_false] at h
        split at h
        · rename_i gs hb
          cases hcl : gs.all G.closed0 with
          | false => rw [hcl] at h; exact h.elim
          | true =>
            rw [hcl] at h
            simp only [cond_true, fLL_eq] at h
            simp only [List.all_eq_true] at hcl
            obtain ⟨us, r1, r2, r3, r4⟩ := build_run hu hz hn hle hb hcl hi
            obtain ⟨C1, hI1, hk1, hbx, hex, _, _⟩ := hi.freeRow d
            have hat : ∀ (i : Nat) r, (chunk len (P.cellsOf e) gs)[i]? = some r → ∀ (j : Nat) g, r[j]? = some g → gs[i * P.cellsOf e + j]? = some g := fun i r hr j g hj => by
              obtain ⟨hlt, rfl⟩ := chunk_get hr
              rw [List.getElem?_take] at hj
              split at hj
              · rwa [List.getElem?_drop] at hj
              · cases hj
            have hrl : ∀ (i : Nat) r, (chunk len (P.cellsOf e) gs)[i]? = some r → r.length = P.cellsOf e := fun i r hr => by
              obtain ⟨hlt, rfl⟩ := chunk_get hr
              have : (i + 1) * P.cellsOf e ≤ len * P.cellsOf e := Nat.mul_le_mul_right _ hlt
              rw [Nat.succ_mul] at this
              rw [List.length_take, List.length_drop]; omega
            obtain ⟨C2, hI2, hk2⟩ := hI1.newRow (k := d) hk1 (by rw [freeRow_len]; exact hd) (sz := P.cellsOf e) (n := len) (vs := us) (T := e) (fz := (0, 0)) (xs := chunk len (P.cellsOf e) gs)
              (by rw [r3]; exact Nat.le_refl _) ⟨by simp [chunk]; exact hlen, by simp [chunk]⟩ r2.2.1 (fun o _ => by simp)
              (fun r hr => by
                obtain ⟨i, hi0⟩ := List.mem_iff_getElem?.1 hr
                refine ⟨hrl i r hi0, fun g hg => ?_⟩
                obtain ⟨j, hj⟩ := List.mem_iff_getElem?.1 hg
                exact hcl g (List.mem_of_getElem? (hat i r hi0 j g hj)))
              (fun i r j g v a1 a2 a3 => (r2.2.2 _ g v (hat i r a1 j g a2) a3).keep0 (hcl g (List.mem_of_getElem? (hat i r a1 j g a2))) (Keeps.refl _ _) (fun _ _ hn => by rw [hex]; exact hn))
            refine ⟨_, _, r1, C2, _, _, h, hI2, ?_⟩
            have := Rep.own (C := C2) (w := w.alloc (.cells ⟨us⟩ e)) d 0 len w.heap.size 0 (P.cellsOf e) len ⟨w.heap.size, 0, none⟩ hk2 (by omega) ⟨fun _ => by simp, rfl, rfl⟩ hlen
            simpa using this
        · exact h.elim
    · exact h.elim
  · exact h.elim
/-! Maps. -/
def isAggG : G → Bool
  | .agg _ => true
  | _ => false
def plainG : G → Bool
  | .int .. | .bool _ | .str _ => true
  | _ => false
def keyD : TypeDesc → Bool
  | .int _ | .struct _ => true
  | _ => false
def flOf (dk de : TypeDesc) : Nat := bif aggD dk then (bif aggD de then 3 else 1) else (bif aggD de then 2 else 0)
def mapD (P : Program) (t : TypeId) : Option (TypeId × TypeId × TypeDesc × TypeDesc) :=
  match P.underlying t with
  | some (.map K E) => match P.underlying K, P.underlying E with
    | some dk, some de => some (K, E, dk, de)
    | _, _ => none
  | _ => none
/-- Keys that the model asks for nothing: their parts lie where they should. (Worked out by the kernel.) -/
def keyOk (P : Program) : Nat → TypeId → Nat → Bool
  | 0, _, _ => false
  | d + 1, t, len =>
    match P.underlying t with
    | some (.int _) | some .bool | some .string => true
    | some (.struct fs) => fs.toList.all fun f => match P.underlying f.type with
      | some dd => Nat.ble (f.offset + wide P dd f.type) len && keyOk P d f.type (wide P dd f.type)
      | none => false
    | _ => false
def keyFit (P : Program) (K : TypeId) (dk : TypeDesc) (kn : Nat) (key : G) : Bool :=
  keyD dk && okReg key && Nat.beq key.cells.length kn && Nat.beq kn (wide P dk K) && key.cells.all plainG && (isAggG key == aggD dk)
def valFit (P : Program) (E : TypeId) (de : TypeDesc) (x : G) : Bool :=
  okReg x && Nat.beq x.cells.length (wide P de E) && x.cells.all G.closed0 && (isAggG x == aggD de)
def zAgg (P : Program) (E : TypeId) : Bool :=
  match P.info? E with
  | some i => match i.zero with
    | some (.agg _) => true
    | _ => false
  | none => false
/-- Where a key stands among the entries. -/
def hitI (f : List G → Bool) : List (List G) → Option Nat
  | [] => none
  | r :: rs => bif f r then some 0 else (hitI f rs).map (· + 1)
def mput (f : List G → Bool) (row : List G) (xs : List (List G)) : List (List G) :=
  match hitI f xs with
  | some i => xs.set i row
  | none => xs ++ [row]
def mdel (f : List G → Bool) (xs : List (List G)) : List (List G) :=
  match hitI f xs with
  | some i => xs.eraseIdx i
  | none => xs
/-- What a look at a key tells. -/
def Look (f : List G → Bool) (kn : Nat) (zc : List G) (xs : List (List G)) (v : List G) (b : Bool) : Prop :=
  (∃ (i : Nat) (r : List G), hitI f xs = some i ∧ xs[i]? = some r ∧ v = r.drop kn ∧ b = true) ∨ (hitI f xs = none ∧ v = zc ∧ b = false)
def valP (de : TypeDesc) (v : List G) (k : G → Prop) : Prop :=
  bif aggD de then fL v fun v => k (.agg v) else match v with
    | [g] => k g
    | _ => False
def makeMP (P : Program) (d : Nat) (t : TypeId) (st : St) (k : G → St → Prop) : Prop :=
  match mapD P t with
  | some (K, _, dk, de) => bif Nat.blt d st.rows.length then k (.mp d (wide P dk K) (flOf dk de)) ((st.freeRow d).setRow d []) else False
  | none => False
def lookP (P : Program) (t : TypeId) (st : St) (m key : G) (ok : Bool) (k : G → Prop) : Prop :=
  match mapD P t, m with
  | some (K, E, dk, de), .mp kk kn fl => match st.rows.getD kk none, zeroCells P E with
    | some xs, some zc => bif keyFit P K dk kn key && Nat.beq fl (flOf dk de) && (zAgg P E == aggD de) then
        (eqOk P 12 K = true ∧ keyOk P 12 K kn = true) ∧ ∃ f : List G → Bool, (∀ r ∈ xs, eqT P 12 K key.cells (r.take kn) = some (f r)) ∧ ∃ v b, Look f kn zc xs v b ∧
          valP de v fun g => bif ok then k (.tup [g, .bool b]) else k g
        else False
    | _, _ => False
  | _, _ => False
def updP (P : Program) (t : TypeId) (st : St) (m key x : G) (k : St → Prop) : Prop :=
  match mapD P t, m with
  | some (K, E, dk, de), .mp kk kn fl => match st.rows.getD kk none with
    | some xs => bif keyFit P K dk kn key && Nat.beq fl (flOf dk de) && valFit P E de x then
        (eqOk P 12 K = true ∧ keyOk P 12 K kn = true) ∧ ∃ f : List G → Bool, (∀ r ∈ xs, eqT P 12 K key.cells (r.take kn) = some (f r) ∧ (f r = true → r.take kn = key.cells)) ∧ k (st.setRow kk (mput f (key.cells ++ x.cells) xs))
        else False
    | none => False
  | _, _ => False
def delP (P : Program) (gs : List G) (ts : List TypeId) (st : St) (k : G → St → Prop) : Prop :=
  match gs, ts with
  | [m, key], t :: _ => match mapD P t, m with
    | some (K, E, dk, de), .mp kk kn fl => match st.rows.getD kk none with
      | some xs => bif keyFit P K dk kn key && Nat.beq fl (flOf dk de) then
          (eqOk P 12 K = true ∧ keyOk P 12 K kn = true) ∧ ∃ f : List G → Bool, (∀ r ∈ xs, eqT P 12 K key.cells (r.take kn) = some (f r)) ∧ k (.tup []) (st.setRow kk (mdel f xs))
          else False
      | none => False
    | _, _ => False
  | _, _ => False

theorem plain_closed0 {g : G} (h : plainG g = true) : g.closed0 = true := by cases g <;> first | rfl | (simp [plainG] at h; done)
theorem flOf_bits (dk de : TypeDesc) : (flOf dk de).testBit 0 = aggD dk ∧ (flOf dk de).testBit 1 = aggD de := by
  unfold flOf; cases aggD dk <;> cases aggD de <;> exact ⟨rfl, rfl⟩
theorem mapD_some {t K E : TypeId} {dk de : TypeDesc} (h : mapD P t = some (K, E, dk, de)) : P.underlying t = some (.map K E) ∧ P.underlying K = some dk ∧ P.underlying E = some de := by
  unfold mapD at h
  split at h
  · split at h
    · rename_i K' E' h1 _ _ dk' de' h2 h3; cases h; exact ⟨h1, h2, h3⟩
    · cases h
  · cases h
/-- A value that fits reads as its cells. -/
theorem cellsAs_of {x : G} {u : Value} (hx : Rep C w x u) (h : okReg x = true) : CellsAs C w (isAggG x) x.cells u := by
  by_cases ha : ∃ gs, x = .agg gs
  · obtain ⟨gs, rfl⟩ := ha
    obtain ⟨vs, rfl, h1, _⟩ := hx.agg_inv
    exact .inl ⟨rfl, vs, rfl, h1.1, h1.2.1, h1.2.2⟩
  · have hc : x.cell = true := by
      rcases okReg_cases h with h | h
      · exact h
      · exact absurd h ha
    have h1 : isAggG x = false := by cases x <;> first | rfl | exact absurd ⟨_, rfl⟩ ha
    have h2 : x.cells = [x] := by cases x <;> first | rfl | exact absurd ⟨_, rfl⟩ ha
    rw [h1, h2]
    exact .inr ⟨rfl, x, rfl, hx.oneCell hc, hx⟩
theorem key_eq {K : TypeId} {dk : TypeDesc} (hu : P.underlying K = some dk) (hk : eqOk P 12 K = true) {kc ec : List G} {b : Bool} (he : eqT P 12 K kc ec = some b) {u v : Value} (hx : CellsAs C w (aggD dk) kc u) (hy : CellsAs C w (aggD dk) ec v) :
    (Op.equal K u v).run P w = .ok b w := by
  have main : ∀ us vs : List Value, RepL C w kc us → RepL C w ec vs → (Op.equalIn 10000 K (bif aggD dk then .agg ⟨us⟩ else us.getD 0 undef) (bif aggD dk then .agg ⟨vs⟩ else vs.getD 0 undef)).run P w = .ok b w :=
    fun us vs h1 h2 => eqT_sound 12 K kc ec b us vs dk hk he hu h1 h2 10000 (by decide)
  show (Op.equalIn 10000 K u v).run P w = _
  rcases hx with ⟨ha, us, rfl, h1, h2, h3⟩ | ⟨ha, g, rfl, h1, h2⟩ <;> rcases hy with ⟨ha', vs, rfl, h1', h2', h3'⟩ | ⟨ha', g', rfl, h1', h2'⟩
  · have := main us vs ⟨h1, h2, h3⟩ ⟨h1', h2', h3'⟩; rw [ha] at this; exact this
  · rw [ha] at ha'; cases ha'
  · rw [ha] at ha'; cases ha'
  · have := main [u] [v] ⟨rfl, by simpa using h1, fun i x y hx hy => by
      cases i with
      | succ i => simp at hx
      | zero => simp at hx hy; subst hx; subst hy; exact h2⟩ ⟨rfl, by simpa using h1', fun i x y hx hy => by
      cases i with
      | succ i => simp at hx
      | zero => simp at hx hy; subst hx; subst hy; exact h2'⟩
    rw [ha] at this; exact this
theorem hitI_some {f : List G → Bool} : ∀ {xs : List (List G)} {i : Nat}, hitI f xs = some i → ∃ r, xs[i]? = some r ∧ f r = true
  | [], i, h => by cases h
  | r :: rs, i, h => by
    unfold hitI at h
    cases hf : f r with
    | true => rw [hf] at h; cases h; exact ⟨r, rfl, hf⟩
    | false =>
      rw [hf] at h
      obtain ⟨j, hj, rfl⟩ := Option.map_eq_some_iff.1 h
      obtain ⟨q, h1, h2⟩ := hitI_some hj
      exact ⟨q, by simpa using h1, h2⟩
theorem run_findAsking {K : TypeId} {key : Value} {f : List G → Bool} : ∀ (es : List MapEntry) (xs : List (List G)) (n : Nat), es.length = xs.length →
    (∀ (i : Nat) e r, es[i]? = some e → xs[i]? = some r → (Op.equal K key e.key).run P w = .ok (f r) w) →
    (Instr.findAsking K key es n).run P w = .ok ((hitI f xs).bind fun i => (es[i]?).map fun e => (n + i, e.val)) w
  | [], [], n, _, _ => rfl
  | e :: es, r :: rs, n, hl, h => by
    have ih := run_findAsking es rs (n + 1) (by simpa using hl) (fun i e r h1 h2 => h (i + 1) e r (by simpa using h1) (by simpa using h2))
    unfold Instr.findAsking hitI
    rw [Sem.run_bind, h 0 e r rfl rfl, Result.andThen_ok]
    cases hf : f r with
    | true => simp
    | false =>
      simp only [Bool.false_eq_true, if_false, cond_false]
      rw [ih]
      cases hq : hitI f rs with
      | none => rfl
      | some j => simp [Nat.add_assoc, Nat.add_comm 1 j]
theorem findNow_int {q : IntKind} {kd : IntKind} {m : Int} {f : List G → Bool} : ∀ (es : List MapEntry) (xs : List (List G)) (n : Nat), es.length = xs.length →
    (∀ (i : Nat) e r, es[i]? = some e → xs[i]? = some r → ∃ z : Int, e.key = .int kd z ∧ f r = (m == z)) →
    Instr.findNow (.int q) (.int kd m) es n = some ((hitI f xs).bind fun i => (es[i]?).map fun e => (n + i, e.val))
  | [], [], n, _, _ => rfl
  | e :: es, r :: rs, n, hl, h => by
    have ih := findNow_int (q := q) (kd := kd) (m := m) es rs (n + 1) (by simpa using hl) (fun i e r h1 h2 => h (i + 1) e r (by simpa using h1) (by simpa using h2))
    obtain ⟨z, h1, h2⟩ := h 0 e r rfl rfl
    unfold Instr.findNow hitI
    rw [h1, h2]
    simp only [Instr.sameNow, if_true]
    cases hf : (m == z) with
    | true => simp
    | false =>
      simp only [cond_false]
      rw [ih]
      cases hq : hitI f rs with
      | none => rfl
      | some j => simp [Nat.add_assoc, Nat.add_comm 1 j]
theorem run_findKey {K : TypeId} {dk : TypeDesc} (hu : P.underlying K = some dk) (hk : eqOk P 12 K = true) (hd : keyD dk = true) {kc : List G} {key : Value} (hx : CellsAs C w (aggD dk) kc key) {f : List G → Bool} {es : List MapEntry} {xs : List (List G)} {kn : Nat}
    (hl : es.length = xs.length) (hE : ∀ (i : Nat) e r, es[i]? = some e → xs[i]? = some r → CellsAs C w (aggD dk) (r.take kn) e.key) (hf : ∀ r ∈ xs, eqT P 12 K kc (r.take kn) = some (f r)) :
    (Instr.findKey K key es).run P w = .ok ((hitI f xs).bind fun i => (es[i]?).map fun e => (i, e.val)) w := by
  have ask := run_findAsking (P := P) (w := w) (K := K) (key := key) (f := f) es xs 0 hl (fun i e r h1 h2 => key_eq hu hk (hf r (List.mem_of_getElem? h2)) hx (hE i e r h1 h2))
  simp only [Nat.zero_add] at ask
  unfold Instr.findKey
  rw [Sem.run_bind, run_underlying hu, Result.andThen_ok]
  cases dk with
  | struct fs =>
    cases es with
    | nil =>
      cases xs with
      | nil => rfl
      | cons _ _ => simp at hl
    | cons e es => simp only [Instr.findNow, Instr.sameNow]; exact ask
  | int q =>
    have hk2 := hk
    rcases hx with ⟨ha, _⟩ | ⟨ha, g, rfl, h1, h2⟩
    · cases ha
    · cases es with
      | nil =>
        cases xs with
        | nil => rfl
        | cons _ _ => simp at hl
      | cons e0 es0 =>
        have two : ∀ (i : Nat) e r, (e0 :: es0)[i]? = some e → xs[i]? = some r → ∃ (kd : IntKind) (m z : Int), g = .int kd m ∧ e.key = .int kd z ∧ f r = (m == z) := fun i e r h3 h4 => by
          have he := hf r (List.mem_of_getElem? h4)
          have hq := hE i e r h3 h4
          rcases hq with ⟨ha', _⟩ | ⟨_, g', hg', _, h5⟩
          · cases ha'
          · rw [hg'] at he
            simp only [eqT, hu] at he
            split at he
            · rename_i kd m kd' z e1 e2
              cases e1; cases e2
              split at he
              · rename_i e3; subst e3
                exact ⟨kd, m, z, rfl, h5.int_inv, (Option.some.inj he).symm⟩
              · cases he
            · cases he
        have hx0 : ∃ r0, xs[0]? = some r0 := by
          cases xs with
          | nil => simp at hl
          | cons r _ => exact ⟨r, rfl⟩
        obtain ⟨r0, hr0⟩ := hx0
        obtain ⟨kd, m, z0, hg, _, _⟩ := two 0 e0 r0 rfl hr0
        subst hg
        obtain rfl := h2.int_inv
        rw [findNow_int (q := q) (kd := kd) (m := m) (f := f) (e0 :: es0) xs 0 hl (fun i e r h3 h4 => by
          obtain ⟨kd', m', z, h5, h6, h7⟩ := two i e r h3 h4
          cases h5; exact ⟨z, h6, h7⟩)]
        simp
  | _ => simp [keyD] at hd
/-! What a map's key is asked. -/
theorem run_checkKey1 (b : Bool) : ∀ (d n : Nat) (t : TypeId) (dd : TypeDesc) (u : Value) (gs : List G), d ≤ n → eqOk P d t = true → keyOk P d t gs.length = true → P.underlying t = some dd → CellsAs C w (aggD dd) gs u →
    (Instr.checkKey b n t u).run P w = .ok () w
  | 0, n, t, dd, u, gs, hn, he, hk, hu, hc => by simp [eqOk] at he
  | d + 1, 0, t, dd, u, gs, hn, he, hk, hu, hc => by omega
  | d + 1, n + 1, t, dd, u, gs, hn, he, hk, hu, hc => by
    unfold eqOk at he
    unfold keyOk at hk
    rw [hu] at he hk
    unfold Instr.checkKey
    rw [Sem.run_bind, run_underlying hu, Result.andThen_ok]
    cases dd with
    | int q => rfl
    | bool => rfl
    | string => rfl
    | struct fs =>
      rcases hc with ⟨_, us, rfl, h1, h2, h3⟩ | ⟨ha, _⟩
      · simp only [Bool.and_eq_true, Bool.not_eq_true', List.all_eq_true] at he hk
        have hfs : ∀ f ∈ fs.toList, f.name ≠ "_" ∧ ∃ v, (part f.type ⟨us⟩ f.offset).run P w = .ok v w ∧ (Instr.checkKey b n f.type v).run P w = .ok () w := fun f hf => by
          obtain ⟨e1, e2⟩ := he.2 f hf
          have e3 := hk f hf
          split at e3
          · rename_i dd' hu'
            obtain ⟨e4, e5⟩ := by simpa only [Bool.and_eq_true] using e3
            have e4 := Nat.le_of_ble_eq_true e4
            have hpart := run_part_of hu' (vs := us) (o := f.offset) (by rw [h1]; exact e4) w
            refine ⟨by simpa using e1, _, hpart, ?_⟩
            have hr : RepL C w gs us := ⟨h1, h2, h3⟩
            have hp := hr.part f.offset (wide P dd' f.type)
            have hlen : ((gs.drop f.offset).take (wide P dd' f.type)).length = wide P dd' f.type := by rw [List.length_take, List.length_drop]; omega
            refine run_checkKey1 b d n f.type dd' _ ((gs.drop f.offset).take (wide P dd' f.type)) (by omega) e2 (by rw [hlen]; exact e5) hu' ?_
            cases hq : aggD dd' with
            | true =>
              unfold wide at hp; rw [hq] at hp; simp only [cond_true] at hp
              simp only [cond_true, wide, hq]
              exact .inl ⟨rfl, _, rfl, hp.1, hp.2.1, hp.2.2⟩
            | false =>
              unfold wide at hp hlen; rw [hq] at hp hlen; simp only [cond_false] at hp hlen
              simp only [cond_false, wide, hq]
              obtain ⟨g, hg⟩ : ∃ g, (gs.drop f.offset).take 1 = [g] := by
                match hm : (gs.drop f.offset).take 1, hlen with
                | [g], _ => exact ⟨g, rfl⟩
              rw [hg] at hp ⊢
              obtain ⟨v, hv, hv2⟩ := hp.one
              have hv0 : us.getD f.offset undef = v := by
                have := congrArg (fun l => l[0]?) hv
                simp only [List.getElem?_take, List.getElem?_drop, Nat.add_zero] at this
                rw [List.getD_eq_getElem?_getD]
                simpa using congrArg (fun o => o.getD undef) this
              rw [hv0]
              exact .inr ⟨rfl, g, rfl, hp.2.1 v (by rw [hv]; simp), hv2⟩
          · cases e3
        simp only
        rw [← Array.forIn_toList]
        clear he hk
        generalize fs.toList = L at hfs
        induction L with
        | nil => simp
        | cons f L ih =>
          obtain ⟨q1, v, q2, q3⟩ := hfs f (by simp)
          simp only [List.forIn_cons, Sem.run_bind, q1, ne_eq, not_false_eq_true, if_true, q2, q3, Result.andThen_ok, Sem.run_pure]
          have := ih (fun f hf => hfs f (by simp [hf]))
          simpa only [Sem.run_bind, ne_eq, Sem.run_pure] using this
      · cases ha
    | _ => simp at he
theorem run_checkKey2 {K : TypeId} {dk : TypeDesc} (hu : P.underlying K = some dk) {kc : List G} (he : eqOk P 12 K = true) (hk : keyOk P 12 K kc.length = true) {u : Value} (hc : CellsAs C w (aggD dk) kc u) (b : Bool) : (Instr.checkKey b 10000 K u).run P w = .ok () w :=
  run_checkKey1 b 12 10000 K dk u kc (by decide) he hk hu hc
/-! Plain cells tell the value. -/
theorem plain_same {g : G} (h : plainG g = true) {u v : Value} (hx : Rep C w g u) (hy : Rep C w g v) : u = v := by
  cases g with
  | int k n => rw [hx.int_inv, hy.int_inv]
  | bool b => rw [hx.bool_inv, hy.bool_inv]
  | str s => rw [hx.str_inv, hy.str_inv]
  | _ => simp [plainG] at h
theorem cells_same {ag : Bool} {gs : List G} (h : ∀ g ∈ gs, plainG g = true) {u v : Value} (hx : CellsAs C w ag gs u) (hy : CellsAs C w ag gs v) : u = v := by
  rcases hx with ⟨ha, us, rfl, h1, h2, h3⟩ | ⟨ha, g, rfl, h1, h2⟩ <;> rcases hy with ⟨ha', vs, rfl, h1', h2', h3'⟩ | ⟨ha', g', hg, h1', h2'⟩
  · congr 2
    refine List.ext_getElem? fun i => ?_
    by_cases hi : i < gs.length
    · rw [List.getElem?_eq_getElem (by omega), List.getElem?_eq_getElem (by omega)]
      exact congrArg some (plain_same (h _ (List.getElem_mem hi)) (h3 i _ _ (List.getElem?_eq_getElem hi) (List.getElem?_eq_getElem (by omega))) (h3' i _ _ (List.getElem?_eq_getElem hi) (List.getElem?_eq_getElem (by omega))))
    · rw [List.getElem?_eq_none (by omega), List.getElem?_eq_none (by omega)]
  · rw [ha] at ha'; cases ha'
  · rw [ha] at ha'; cases ha'
  · simp only [List.cons.injEq, and_true] at hg; subst hg
    exact plain_same (h g (by simp)) h2 h2'
theorem sameBits_plain {g : G} (h : plainG g = true) {u : Value} (hx : Rep C w g u) (n : Nat) : Instr.sameBits n u u = true := by
  cases g with
  | int k m => rw [hx.int_inv]; cases n <;> simp [Instr.sameBits]
  | bool b => rw [hx.bool_inv]; cases n <;> simp [Instr.sameBits]
  | str s => rw [hx.str_inv]; cases n <;> simp [Instr.sameBits, MapKept.bytes_beq]
  | _ => simp [plainG] at h
theorem sameBits_cells {ag : Bool} {gs : List G} (h : ∀ g ∈ gs, plainG g = true) {u : Value} (hx : CellsAs C w ag gs u) : Instr.sameBits 10000 u u = true := by
  rcases hx with ⟨ha, us, rfl, h1, h2, h3⟩ | ⟨ha, g, rfl, h1, h2⟩
  · show Instr.sameBits (9999 + 1) _ _ = true
    simp only [Instr.sameBits, beq_self_eq_true, Bool.true_and, List.all_eq_true]
    intro p hp
    obtain ⟨i, hi⟩ := List.mem_iff_getElem?.1 hp
    rw [List.getElem?_zip_eq_some] at hi
    have he : p.1 = p.2 := Option.some.inj (hi.1.symm.trans hi.2)
    have hl : i < us.length := (List.getElem?_eq_some_iff.1 hi.1).1
    have hg : gs[i]? = some (gs[i]'(by omega)) := List.getElem?_eq_getElem (by omega)
    have := sameBits_plain (h _ (List.mem_of_getElem? hg)) (h3 i _ _ hg hi.1) 9999
    rw [← he]; exact this
  · exact sameBits_plain (h g (by simp)) h2 10000
/-! A map's object, laid and turned. -/
/-- Only this block has turned: a map. -/
structure OnlyM (w w' : World) (B : Nat) (es : Array MapEntry) (clock : Nat) : Prop where
  os : w'.os = w.os
  tape : w'.tape = w.tape
  output : w'.output = w.output
  size : w'.heap.size = w.heap.size
  here : w'.heap[B]? = some (.map es clock)
  block : ∀ k, k ≠ B → w'.heap[k]? = w.heap[k]?
  was : ∃ es0 c0, w.heap[B]? = some (.map es0 c0)
theorem OnlyM.ty {w w' : World} {B : Nat} {es : Array MapEntry} {clock : Nat} (h : OnlyM w w' B es clock) (B' : Nat) (vs' : Array Value) (T' : TypeId) (fz' : Nat × Nat) (hB : w.heap[B']? = some (.cells vs' T' fz')) :
    ∃ vs2 fz2, w'.heap[B']? = some (.cells vs2 T' fz2) ∧ vs2.size = vs'.size := by
  have hne : B' ≠ B := fun e => by
    obtain ⟨es0, c0, h0⟩ := h.was
    subst e; rw [hB] at h0; cases h0
  exact ⟨vs', fz', by rw [h.block B' hne]; exact hB, rfl⟩
theorem OnlyM.keeps {w w' : World} {B : Nat} {es : Array MapEntry} {clock : Nat} (h : OnlyM w w' B es clock) {ex : Nat → Prop} (he : ex B) : Keeps ex w w' :=
  ⟨by rw [h.size]; exact Nat.le_refl _, fun k _ hn => h.block k (fun e => hn (e ▸ he)), h.ty⟩
theorem OnlyM.fr {t0 : Nat → Prop} {w0 w w' : World} {B : Nat} {es : Array MapEntry} {clock : Nat} (h : OnlyM w w' B es clock) (hf : Fr t0 w0 w) (hB : t0 B ∨ w0.heap.size ≤ B) : Fr t0 w0 w' :=
  ⟨h.os.trans hf.os, h.tape.trans hf.tape, h.output.trans hf.output, by rw [h.size]; exact hf.size, fun k hk hn => by
    have hne : k ≠ B := fun e => by
      subst e
      rcases hB with hB | hB
      · exact hn hB
      · omega
    rw [h.block k hne]; exact hf.block k hk hn, fun B' vs T fz hB' => by
      obtain ⟨v1, f1, g1, g2⟩ := hf.ty _ _ _ _ hB'
      obtain ⟨v2, f2, g3, g4⟩ := h.ty _ _ _ _ g1
      exact ⟨v2, f2, g3, g4.trans g2⟩⟩
theorem setMap_only {w : World} {B : Nat} {es0 : Array MapEntry} {c0 : Nat} (hb : w.heap[B]? = some (.map es0 c0)) (es : Array MapEntry) (clock : Nat) :
    (setObj B (.map es clock)).run P w = .ok () { w with heap := w.heap.setIfInBounds B (.map es clock) } ∧ OnlyM w { w with heap := w.heap.setIfInBounds B (.map es clock) } B es clock := by
  have hlt : B < w.heap.size := (Array.getElem?_eq_some_iff.1 hb).1
  refine ⟨MapKept.run_setObj_map _ hb, rfl, rfl, rfl, by simp, ?_, fun k hk => ?_, es0, c0, hb⟩
  · show (w.heap.setIfInBounds B (.map es clock))[B]? = _
    rw [Array.getElem?_setIfInBounds_self_of_lt hlt]
  · show (w.heap.setIfInBounds B (.map es clock))[k]? = _
    rw [Array.getElem?_setIfInBounds_ne (fun e => hk e.symm)]
/-- What an entry reads as. -/
def EntAs (C : Cx) (w : World) (kn fl : Nat) (e : MapEntry) (r : List G) : Prop :=
  (∀ g ∈ r, g.closed0 = true) ∧ kn ≤ r.length ∧ CellsAs C w (fl.testBit 0) (r.take kn) e.key ∧ CellsAs C w (fl.testBit 1) (r.drop kn) e.val
theorem EntAs.keep {C C' : Cx} {w w' : World} {kn fl : Nat} {e : MapEntry} {r : List G} (h : EntAs C w kn fl e r) (hk : ∀ g u, g.closed0 = true → Rep C w g u → Rep C' w' g u) : EntAs C' w' kn fl e r :=
  ⟨h.1, h.2.1, h.2.2.1.mono fun g hg u hu => hk g u (h.1 g (List.mem_of_mem_take hg)) hu, h.2.2.2.mono fun g hg u hu => hk g u (h.1 g (List.mem_of_mem_drop hg)) hu⟩
/-- An own map turns. -/
theorem Inv.mapTo {k : Nat} {xs xs' : List (List G)} {w' : World} (h : Inv C F st a w) (hxs : st.rows[k]? = some (some xs)) {B kn fl : Nat} {es : Array MapEntry} {clock : Nat} (k1 : C.row k = some (some (B, kn, fl, 0)))
    (hl : es.toList.length = xs'.length) (hE : ∀ (i : Nat) e r, es.toList[i]? = some e → xs'[i]? = some r → EntAs C w kn fl e r) (ho : OnlyM w w' B es clock) : Inv C F (st.setRow k xs') a w' := by
  have he : C.ex B := h.mem.ltR k1
  have hk := ho.keeps he
  have keep : ∀ g v, Rep C w g v → Rep C w' g v := fun g v hg => hg.keep hk (fun _ _ h => h) (fun _ _ h => h) (fun _ _ h => h)
  have hkl : k < st.rows.length := (List.getElem?_eq_some_iff.1 hxs).1
  refine ⟨h.nd, h.sz, fun j g v hg hv => keep g v (h.slots j g v hg hv), ⟨fun x cs' hx => ?_, fun x ys hx' => ?_, h.mem.domB, fun x X hx' => ?_, h.mem.bb, h.mem.rr, h.mem.br, fun X hX => by rw [ho.size]; exact h.mem.lt X hX⟩, ho.fr h.fr (h.tr k B kn fl 0 k1), h.ex0, h.exn, h.t0, h.tb, h.tr, h.fb⟩
  · obtain ⟨X, vs', T', q1, q2, q3, q4, q5, q6⟩ := h.mem.box x cs' hx
    have hne : X ≠ B := fun e' => h.mem.br x k B kn fl 0 (by rw [← e']; exact q1) k1
    exact ⟨X, vs', T', q1, q2, by rw [ho.block X hne]; exact q3, q4, q5, fun j g v hg hv => ⟨(q6 j g v hg hv).1, keep _ _ (q6 j g v hg hv).2⟩⟩
  · by_cases e : x = k
    · subst e
      simp only [St.setRow, List.getElem?_set_self hkl, Option.some.injEq] at hx'
      subst hx'
      exact .inr (.inr ⟨B, kn, fl, es, clock, k1, he, ho.here, hl, fun i e r h1 h2 => (hE i e r h1 h2).keep fun g u _ hu => keep g u hu⟩)
    · simp only [St.setRow, List.getElem?_set_ne (fun e' => e e'.symm)] at hx'
      rcases h.mem.row x ys hx' with q1 | ⟨X, s', sz', n', vs', T', fz', q1, q2, q3, q4, q5, q6, q6b, q7, q8⟩ | km
      · exact .inl q1
      · have hne : X ≠ B := fun e' => e (h.mem.rr x k X s' sz' n' kn fl 0 q1 (by rw [e']; exact k1))
        exact .inr (.inl ⟨X, s', sz', n', vs', T', fz', q1, q2, by rw [ho.block X hne]; exact q3, q4, q5, q6, q6b, q7, fun i r j g v a1 a2 a3 => keep _ _ (q8 i r j g v a1 a2 a3)⟩)
      · exact .inr (.inr (km.move (fun q h => h) (fun _ _ _ h => h) (fun X q hq => ho.block X (fun e' => e (h.mem.rr x k X _ _ _ kn fl 0 hq (by rw [e']; exact k1)))) (fun g u _ hu => keep _ _ hu)))
  · by_cases e : x = k
    · subst e; exact ⟨_, by simp only [St.setRow]; exact List.getElem?_set_self hkl⟩
    · obtain ⟨ys, hys⟩ := h.mem.domR x X hx'
      exact ⟨ys, by simp only [St.setRow, List.getElem?_set_ne (fun e' => e e'.symm)]; exact hys⟩
/-- A map without entries, made: row k. -/
theorem Inv.newMap {k kn fl : Nat} (h0 : Inv C F st a w) (hk : C.row k = none) (hlt : k < st.rows.length) : ∃ C', Inv C' F (st.setRow k []) a (w.alloc (.map #[] 0)) ∧ C'.row k = some (some (w.heap.size, kn, fl, 0)) := by
  have h := h0.own_alloc (.map #[] 0)
  let C1 : Cx := { C with ex := fun B => C.ex B ∨ B = w.heap.size }
  let C' : Cx := { C1 with row := fun x => if x = k then some (some (w.heap.size, kn, fl, 0)) else C.row x }
  have hb : ∀ b B, C.box b = some B → B < w.heap.size := fun b B hb => h0.mem.lt _ (h0.mem.ltB hb)
  have hr : ∀ k B s sz n, C.row k = some (some (B, s, sz, n)) → B < w.heap.size := fun k B s sz n hk => h0.mem.lt _ (h0.mem.ltR hk)
  have hrow : ∀ x r, C'.row x = some r → (x = k ∧ r = some (w.heap.size, kn, fl, 0)) ∨ (x ≠ k ∧ C.row x = some r) := fun x r hx => by
    have hx' : (if x = k then some (some (w.heap.size, kn, fl, 0)) else C.row x) = some r := hx
    split at hx'
    · cases hx'; exact .inl ⟨by assumption, rfl⟩
    · exact .inr ⟨by assumption, hx'⟩
  have keep : ∀ g v, Rep C1 (w.alloc (.map #[] 0)) g v → Rep C' (w.alloc (.map #[] 0)) g v := fun g v hg => hg.keep (Keeps.refl _ _) (fun _ _ h => h) (fun _ _ h => h) (fun x r hx => by
    show (if x = k then _ else _) = _
    rw [if_neg (fun e => by subst e; rw [show C1.row = C.row from rfl, hk] at hx; cases hx)]; exact hx)
  have hself : C'.row k = some (some (w.heap.size, kn, fl, 0)) := by show (if k = k then _ else _) = _; rw [if_pos rfl]
  refine ⟨C', ⟨h.nd, h.sz, fun i g v hg hv => keep g v (h.slots i g v hg hv), ⟨fun b cs hb' => ?_, fun x ys hx' => ?_, h.mem.domB, fun x r hx' => ?_, h.mem.bb, fun x x' X s1 z1 n1 s2 z2 n2 e1 e2 => ?_, fun b x X s1 z1 n1 e1 e2 => ?_, h.mem.lt⟩, h.fr, h.ex0, h.exn, h.t0, h.tb, fun x X s1 z1 n1 e1 => ?_, h.fb⟩, hself⟩
  · obtain ⟨X, vs', T', k1, k2, k3, k4, k5, k6⟩ := h.mem.box b cs hb'
    exact ⟨X, vs', T', k1, k2, k3, k4, k5, fun i g v hg hv => ⟨(k6 i g v hg hv).1, keep _ _ (k6 i g v hg hv).2⟩⟩
  · by_cases e : x = k
    · subst e
      simp only [St.setRow, List.getElem?_set_self hlt, Option.some.injEq] at hx'
      subst hx'
      exact .inr (.inr ⟨w.heap.size, kn, fl, #[], 0, hself, .inr rfl, heap_alloc_new w _, rfl, fun i e r h1 => by simp at h1⟩)
    · simp only [St.setRow, List.getElem?_set_ne (fun e' => e e'.symm)] at hx'
      have hrx : C'.row x = C.row x := by show (if x = k then _ else _) = _; rw [if_neg e]
      rcases h.mem.row x ys hx' with k1 | ⟨X, s', sz', n', vs', T', fz', k1, k2, k3, k4, k5, k6, k6b, k7, k8⟩ | km
      · exact .inl ⟨hrx.trans k1.1, k1.2⟩
      · exact .inr (.inl ⟨X, s', sz', n', vs', T', fz', hrx.trans k1, k2, k3, k4, k5, k6, k6b, k7, fun i r j g v a1 a2 a3 => keep _ _ (k8 i r j g v a1 a2 a3)⟩)
      · exact .inr (.inr (km.move (fun q h => hrx.trans h) (fun _ _ _ h => h) (fun _ _ _ => rfl) (fun g u _ hu => keep _ _ hu)))
  · rcases hrow x r hx' with ⟨rfl, rfl⟩ | ⟨e, h2⟩
    · exact ⟨[], by simp only [St.setRow]; exact List.getElem?_set_self hlt⟩
    · obtain ⟨ys, hys⟩ := h.mem.domR x r h2
      exact ⟨ys, by simp only [St.setRow, List.getElem?_set_ne (fun e' => e e'.symm)]; exact hys⟩
  · rcases hrow x _ e1 with ⟨rfl, q⟩ | ⟨e, p1⟩ <;> rcases hrow x' _ e2 with ⟨rfl, q'⟩ | ⟨e', p2⟩
    · rfl
    · cases q; exact absurd (hr _ _ _ _ _ p2) (by omega)
    · cases q'; exact absurd (hr _ _ _ _ _ p1) (by omega)
    · exact h0.mem.rr x x' X s1 z1 n1 s2 z2 n2 p1 p2
  · rcases hrow x _ e2 with ⟨rfl, q⟩ | ⟨e, p⟩
    · cases q; exact absurd (hb b _ e1) (by omega)
    · exact h0.mem.br b x X s1 z1 n1 e1 p
  · rcases hrow x _ e1 with ⟨rfl, q⟩ | ⟨e, p⟩
    · cases q; exact .inr h0.fr.size
    · exact h.tr x X s1 z1 n1 p
theorem mp_inv {kk kn fl : Nat} {u : Value} {xs : List (List G)} (hi : Inv C F st a w) (hx : Rep C w (.mp kk kn fl) u) (hxs : st.rows.getD kk none = some xs) :
    ∃ B es clock, u = .map (some B) ∧ C.row kk = some (some (B, kn, fl, 0)) ∧ w.heap[B]? = some (.map es clock) ∧ es.toList.length = xs.length ∧ ∀ (i : Nat) e r, es.toList[i]? = some e → xs[i]? = some r → EntAs C w kn fl e r := by
  cases hx with
  | mp _ _ _ B hr =>
    rcases hi.mem.row kk xs (rowsOf hxs) with ⟨k1, _⟩ | ⟨B', s', sz', n', vs, T, fz, k1, _, _, _, k5, _⟩ | ⟨B', kn', fl', es, clock, k1, _, k3, k4, k5⟩
    · rw [hr] at k1; cases k1
    · rw [hr] at k1; cases k1; omega
    · rw [hr] at k1; cases k1; exact ⟨B, es, clock, rfl, hr, k3, k4, k5⟩
theorem keyFit_iff {K : TypeId} {dk : TypeDesc} {kn : Nat} {key : G} (h : keyFit P K dk kn key = true) : keyD dk = true ∧ okReg key = true ∧ key.cells.length = kn ∧ kn = wide P dk K ∧ (∀ g ∈ key.cells, plainG g = true) ∧ isAggG key = aggD dk := by
  simp only [keyFit, Bool.and_eq_true, List.all_eq_true, beq_iff_eq] at h
  obtain ⟨⟨⟨⟨⟨h1, h2⟩, h3⟩, h4⟩, h5⟩, h6⟩ := h
  exact ⟨h1, h2, Nat.eq_of_beq_eq_true h3, Nat.eq_of_beq_eq_true h4, h5, h6⟩
theorem valFit_iff {E : TypeId} {de : TypeDesc} {x : G} (h : valFit P E de x = true) : okReg x = true ∧ (∀ g ∈ x.cells, g.closed0 = true) ∧ isAggG x = aggD de := by
  simp only [valFit, Bool.and_eq_true, List.all_eq_true, beq_iff_eq] at h
  obtain ⟨⟨⟨h1, _⟩, h3⟩, h4⟩ := h
  exact ⟨h1, h3, h4⟩
theorem zero_as {E : TypeId} {zc : List G} (h : zeroCells P E = some zc) : ∃ z, (zeroValue E).run P w = .ok z w ∧ CellsAs C w (zAgg P E) zc z := by
  have h' := h
  unfold zeroCells at h'
  split at h'
  · rename_i i hi
    split at h'
    · rename_i z hz
      have hrun : (zeroValue E).run P w = .ok z w := by
        unfold zeroValue
        rw [Sem.run_bind, Go.run_typeInfo w hi, Result.andThen_ok, hz]; rfl
      split at h'
      · rename_i hc
        obtain rfl := Option.some.inj h'
        simp only [Bool.and_eq_true, List.all_eq_true, beq_iff_eq] at hc
        refine ⟨z, hrun, ?_⟩
        by_cases ha : ∃ vs, z = .agg vs
        · obtain ⟨⟨vs⟩, rfl⟩ := ha
          have e : zAgg P E = true := by simp [zAgg, hi, hz]
          rw [e]
          exact .inl ⟨rfl, vs, rfl, by simp [Value.cells], fun u hu => hc.1 u (by simpa [Value.cells] using hu), fun j g u hg hu => by
            simp only [Value.cells, List.getElem?_map, hu, Option.map_some, Option.some.injEq] at hg
            subst hg
            exact (zG_rep C w (hc.1 u (by simpa [Value.cells] using List.mem_of_getElem? hu))).2⟩
        · have e : zAgg P E = false := by
            cases z <;> first | (exact absurd ⟨_, rfl⟩ ha) | simp [zAgg, hi, hz]
          have e2 : z.cells = #[z] := by cases z <;> first | rfl | exact absurd ⟨_, rfl⟩ ha
          rw [e, e2]
          have h1 := hc.1 z (by rw [e2]; simp)
          exact .inr ⟨rfl, zG z, by simp, h1, (zG_rep C w h1).2⟩
      · cases h'
    · cases h'
  · cases h'
theorem valP_rep {de : TypeDesc} {v : List G} {k : G → Prop} (h : valP de v k) {u : Value} (hc : CellsAs C w (aggD de) v u) (hcl : ∀ g ∈ v, g.cell = true) : ∃ g, k g ∧ Rep C w g u := by
  unfold valP at h
  rcases hc with ⟨ha, us, rfl, h1, h2, h3⟩ | ⟨ha, g, rfl, h1, h2⟩
  · rw [ha] at h
    simp only [cond_true, fL_eq] at h
    exact ⟨_, h, .agg v us h1 hcl h2 h3⟩
  · rw [ha] at h
    exact ⟨g, h, h2⟩
theorem look_sound {t : TypeId} {m key : G} {ok : Bool} {k : G → Prop} (h : lookP P t st m key ok k) (hi : Inv C F st a w) {u v : Value} (hm : Rep C w m u) (hkey : Rep C w key v) :
    ∃ g z, k g ∧ (Instr.lookup t u v ok).run P w = .ok z w ∧ Rep C w g z := by
  unfold lookP at h
  split at h
  · rename_i K E dk de kk kn fl hd
    obtain ⟨d1, d2, d3⟩ := mapD_some hd
    split at h
    · rename_i xs zc hxs hzc
      cases hq : keyFit P K dk kn key && Nat.beq fl (flOf dk de) && (zAgg P E == aggD de) with
      | false => rw [hq] at h; exact h.elim
      | true =>
        rw [hq] at h
        simp only [Bool.and_eq_true, beq_iff_eq] at hq
        obtain ⟨⟨q1, q2⟩, q3⟩ := hq
        obtain ⟨f1, f2, f3, f4, f5, f6⟩ := keyFit_iff q1
        have q2 := Nat.eq_of_beq_eq_true q2
        obtain ⟨⟨o1, o2⟩, f, hf, vv, b, hl, h⟩ := h
        obtain ⟨B, es, clock, rfl, k1, k3, k4, k5⟩ := mp_inv hi hm hxs
        subst q2
        obtain ⟨b1, b2⟩ := flOf_bits dk de
        have hk := cellsAs_of hkey f2
        rw [f6] at hk
        have hck := run_checkKey2 (C := C) (w := w) d2 o1 (by rw [f3]; exact o2) hk es.isEmpty
        have hfk := run_findKey (C := C) (w := w) d2 o1 f1 hk k4 (fun i e r h1 h2 => by have := (k5 i e r h1 h2).2.2.1; rwa [b1] at this) hf
        have found : ∀ (i : Nat) (e : MapEntry), hitI f xs = some i → es.toList[i]? = some e → (Instr.lookup t (.map (some B)) v ok).run P w = .ok (if ok then .tuple #[e.val, .bool true] else e.val) w := fun i e h1 h2 => by
          unfold Instr.lookup
          simp only [Sem.run_bind, run_underlying d1, Result.andThen_ok, MapKept.run_getObj_map k3, Sem.run_pure, hck, hfk, h1, h2, Option.bind_some, Option.map_some]
        have missed : ∀ z, hitI f xs = none → (zeroValue E).run P w = .ok z w → (Instr.lookup t (.map (some B)) v ok).run P w = .ok (if ok then .tuple #[z, .bool false] else z) w := fun z h1 h2 => by
          unfold Instr.lookup
          simp only [Sem.run_bind, run_underlying d1, Result.andThen_ok, MapKept.run_getObj_map k3, Sem.run_pure, hck, hfk, h1, h2, Option.bind_none]
        rcases hl with ⟨i, r, l1, l2, l3, l4⟩ | ⟨l1, l2, l3⟩
        · subst l3; subst l4
          obtain ⟨e, he⟩ : ∃ e, es.toList[i]? = some e := by
            have := (List.getElem?_eq_some_iff.1 l2).1
            exact ⟨_, List.getElem?_eq_getElem (by omega)⟩
          obtain ⟨c1, c2, c3, c4⟩ := k5 i e r he l2
          rw [b2] at c4
          obtain ⟨g, hg, hrep⟩ := valP_rep h c4 (fun g hg => closed0_cell (c1 g (List.mem_of_mem_drop hg)))
          have hrun := found i e l1 he
          cases ok with
          | true => exact ⟨_, _, hg, hrun, .tup _ [e.val, .bool true] rfl (fun i g' v' h1 h2 => by
              match i, h1, h2 with
              | 0, h1, h2 => cases h1; cases h2; exact hrep
              | 1, h1, h2 => cases h1; cases h2; exact .bool _)⟩
          | false => exact ⟨_, _, hg, hrun, hrep⟩
        · subst l2; subst l3
          obtain ⟨z, hz, hzr⟩ := zero_as (C := C) (w := w) hzc
          rw [q3] at hzr
          obtain ⟨z0, y1, y2, y3, y4, y5⟩ := zeroCells_sound hzc w
          rw [hz] at y1; cases y1
          obtain ⟨g, hg, hrep⟩ := valP_rep h hzr (fun g hg => by
            obtain ⟨j, hj⟩ := List.mem_iff_getElem?.1 hg
            have hjl : j < z.cells.toList.length := by rw [y2]; exact (List.getElem?_eq_some_iff.1 hj).1
            exact (y5 C w j g _ hj (List.getElem?_eq_getElem hjl)).1)
          have hrun := missed z l1 hz
          cases ok with
          | true => exact ⟨_, _, hg, hrun, .tup _ [z, .bool false] rfl (fun i g' v' h1 h2 => by
              match i, h1, h2 with
              | 0, h1, h2 => cases h1; cases h2; exact hrep
              | 1, h1, h2 => cases h1; cases h2; exact .bool _)⟩
          | false => exact ⟨_, _, hg, hrun, hrep⟩
    · exact h.elim
  · exact h.elim
theorem makeM_sound {d : Nat} {t : TypeId} {k : G → St → Prop} (h : makeMP P d t st k) (hi : Inv C F st a w) : ∃ z w', (Instr.makeMap t none).run P w = .ok z w' ∧ After F k a z w' := by
  unfold makeMP at h
  split at h
  · rename_i K E dk de hd
    cases hlt : Nat.blt d st.rows.length with
    | false => rw [hlt] at h; exact h.elim
    | true =>
      rw [hlt] at h
      have hlt := Nat.le_of_ble_eq_true hlt
      obtain ⟨C1, hI1, hk1, _⟩ := hi.freeRow d
      obtain ⟨C2, hI2, hk2⟩ := hI1.newMap (kn := wide P dk K) (fl := flOf dk de) hk1 (by rw [freeRow_len]; exact hlt)
      exact ⟨.map (some w.heap.size), _, rfl, C2, _, _, h, hI2, .mp d _ _ _ hk2⟩
  · exact h.elim
theorem upd_sound {t : TypeId} {m key x : G} {k : St → Prop} (h : updP P t st m key x k) (hi : Inv C F st a w) {u v z : Value} (hm : Rep C w m u) (hkey : Rep C w key v) (hx : Rep C w x z) :
    ∃ st' w', k st' ∧ (Instr.mapUpdate t u v z).run P w = .ok () w' ∧ Inv C F st' a w' := by
  unfold updP at h
  split at h
  · rename_i K E dk de kk kn fl hd
    obtain ⟨d1, d2, d3⟩ := mapD_some hd
    split at h
    · rename_i xs hxs
      cases hq : keyFit P K dk kn key && Nat.beq fl (flOf dk de) && valFit P E de x with
      | false => rw [hq] at h; exact h.elim
      | true =>
        rw [hq] at h
        simp only [Bool.and_eq_true] at hq
        obtain ⟨⟨q1, q2⟩, q3⟩ := hq
        obtain ⟨f1, f2, f3, f4, f5, f6⟩ := keyFit_iff q1
        obtain ⟨v1, v2, v3⟩ := valFit_iff q3
        have q2 := Nat.eq_of_beq_eq_true q2
        obtain ⟨⟨o1, o2⟩, f, hf, h⟩ := h
        obtain ⟨B, es, clock, rfl, k1, k3, k4, k5⟩ := mp_inv hi hm hxs
        subst q2
        obtain ⟨b1, b2⟩ := flOf_bits dk de
        have hk := cellsAs_of hkey f2
        rw [f6] at hk
        have hv := cellsAs_of hx v1
        rw [v3] at hv
        have hck := run_checkKey2 (C := C) (w := w) d2 o1 (by rw [f3]; exact o2) hk false
        have hfk := run_findKey (C := C) (w := w) d2 o1 f1 hk k4 (fun i e r h1 h2 => by have := (k5 i e r h1 h2).2.2.1; rwa [b1] at this) (fun r hr => (hf r hr).1)
        have entry : ∀ e : MapEntry, e.key = v → e.val = z → EntAs C w kn (flOf dk de) e (key.cells ++ x.cells) := fun e h1 h2 => by
          refine ⟨fun g hg => ?_, by rw [List.length_append, f3]; omega, ?_, ?_⟩
          · rcases List.mem_append.1 hg with hg | hg
            · exact plain_closed0 (f5 g hg)
            · exact v2 g hg
          · rw [b1, List.take_left' f3, h1]; exact hk
          · rw [b2, List.drop_left' f3, h2]; exact hv
        unfold mput at h
        cases hh : hitI f xs with
        | none =>
          rw [hh] at h hfk
          simp only at h
          obtain ⟨r1, r2⟩ := setMap_only (P := P) k3 (es.push { key := v, val := z, born := clock }) (clock + 1)
          refine ⟨_, _, h, ?_, hi.mapTo (rowsOf hxs) k1 (by simpa using k4) (fun i e r h1 h2 => ?_) r2⟩
          · unfold Instr.mapUpdate
            simp only [Sem.run_bind, run_underlying d1, Result.andThen_ok, MapKept.run_getObj_map k3, hck, hfk, Option.bind_none]
            exact r1
          · rw [Array.toList_push] at h1
            by_cases hil : i < xs.length
            · rw [List.getElem?_append_left (by omega)] at h1
              rw [List.getElem?_append_left hil] at h2
              exact k5 i e r h1 h2
            · rw [List.getElem?_append_right (by omega)] at h1
              rw [List.getElem?_append_right (by omega)] at h2
              have e0 : i - xs.length = 0 := by
                have := (List.getElem?_eq_some_iff.1 h2).1; simp at this; omega
              rw [k4, e0] at h1
              rw [e0] at h2
              simp only [List.getElem?_cons_zero, Option.some.injEq] at h1 h2
              subst h1; subst h2
              exact entry _ rfl rfl
        | some j =>
          rw [hh] at h hfk
          simp only at h
          obtain ⟨r, hr, hfr⟩ := hitI_some hh
          have hjl : j < es.toList.length := by rw [k4]; exact (List.getElem?_eq_some_iff.1 hr).1
          have hej : es.toList[j]? = some es.toList[j] := List.getElem?_eq_getElem hjl
          have hej' : es[j]? = some es.toList[j] := by rw [← Array.getElem?_toList]; exact hej
          have hold := (k5 j _ r hej hr).2.2.1
          rw [b1, (hf r (List.mem_of_getElem? hr)).2 hfr] at hold
          have hsame : es.toList[j].key = v := cells_same f5 hold hk
          obtain ⟨r1, r2⟩ := setMap_only (P := P) k3 (es.modify j fun e => { e with key := v, val := z }) clock
          have hstay : (Instr.keyThatStays (((es[j]?).map (·.key)).getD v) v).run P w = .ok v w := by
            rw [hej']
            simp only [Option.map_some, Option.getD_some, hsame]
            unfold Instr.keyThatStays
            rw [sameBits_cells f5 hk]; rfl
          refine ⟨_, _, h, ?_, hi.mapTo (rowsOf hxs) k1 (by simp [k4]) (fun i e r' h1 h2 => ?_) r2⟩
          · unfold Instr.mapUpdate
            simp only [Sem.run_bind, run_underlying d1, Result.andThen_ok, MapKept.run_getObj_map k3, hck, hfk, Option.bind_some, hej, Option.map_some, hstay]
            exact r1
          · rw [Array.toList_modify, List.getElem?_modify] at h1
            rw [List.getElem?_set] at h2
            by_cases e0 : j = i
            · subst e0
              rw [if_pos rfl, if_pos (by omega)] at h2
              simp only [if_true, hej, Option.map_eq_map, Option.map_some, Option.some.injEq] at h1
              subst h1; cases h2
              exact entry _ rfl rfl
            · rw [if_neg e0] at h2
              exact k5 i e r' (by simpa [e0] using h1) h2
    · exact h.elim
  · exact h.elim
theorem del_sound {gs : List G} {ts : List TypeId} {k : G → St → Prop} (h : delP P gs ts st k) (hi : Inv C F st a w) {args : Array Operand} (hg : args.toList.map st.ev = gs) {ats : Array TypeId} (ht : ats.toList = ts) (ty : TypeId) :
    ∃ st' w', k (.tup []) st' ∧ (Builtin.delete_ ats ty (args.map a.eval)).run P w = .ok (.tuple #[]) w' ∧ Inv C F st' a w' := by
  unfold delP at h
  split at h
  · rename_i m key t ts'
    obtain ⟨X, Y, hX, hXe, hYe⟩ := map_two hg
    have hm := hi.ev X
    have hkey := hi.ev Y
    rw [hXe] at hm
    rw [hYe] at hkey
    generalize hu : a.eval X = u at hm
    generalize hv : a.eval Y = v at hkey
    have e0 : args.map a.eval = #[u, v] := by apply Array.toList_inj.1; simp [hX, hu, hv]
    have ht0 : ats[0]? = some t := by rw [← Array.getElem?_toList, ht]; rfl
    rw [e0]
    split at h
    · rename_i K E dk de kk kn fl hd
      obtain ⟨d1, d2, d3⟩ := mapD_some hd
      split at h
      · rename_i xs hxs
        cases hq : keyFit P K dk kn key && Nat.beq fl (flOf dk de) with
        | false => rw [hq] at h; exact h.elim
        | true =>
          rw [hq] at h
          simp only [Bool.and_eq_true] at hq
          obtain ⟨q1, q2⟩ := hq
          obtain ⟨f1, f2, f3, f4, f5, f6⟩ := keyFit_iff q1
          have q2 := Nat.eq_of_beq_eq_true q2
          obtain ⟨⟨o1, o2⟩, f, hf, h⟩ := h
          obtain ⟨B, es, clock, rfl, k1, k3, k4, k5⟩ := mp_inv hi hm hxs
          subst q2
          obtain ⟨b1, b2⟩ := flOf_bits dk de
          have hk := cellsAs_of hkey f2
          rw [f6] at hk
          have hck := run_checkKey2 (C := C) (w := w) d2 o1 (by rw [f3]; exact o2) hk es.isEmpty
          have hfk := run_findKey (C := C) (w := w) d2 o1 f1 hk k4 (fun i e r h1 h2 => by have := (k5 i e r h1 h2).2.2.1; rwa [b1] at this) hf
          unfold mdel at h
          cases hh : hitI f xs with
          | none =>
            rw [hh] at h hfk
            simp only at h
            obtain ⟨r1, r2⟩ := setMap_only (P := P) k3 es clock
            refine ⟨_, _, h, ?_, hi.mapTo (rowsOf hxs) k1 k4 k5 r2⟩
            unfold Builtin.delete_
            simp only [ht0, List.getElem?_toArray, List.getElem?_cons_zero, List.getElem?_cons_succ, Sem.run_bind, run_underlying d1, Result.andThen_ok, MapKept.run_getObj_map k3, hck, hfk, Option.bind_none, r1, Sem.run_pure]
          | some j =>
            rw [hh] at h hfk
            simp only at h
            obtain ⟨r, hr, hfr⟩ := hitI_some hh
            have hjl : j < es.toList.length := by rw [k4]; exact (List.getElem?_eq_some_iff.1 hr).1
            have hej : es.toList[j]? = some es.toList[j] := List.getElem?_eq_getElem hjl
            obtain ⟨r1, r2⟩ := setMap_only (P := P) k3 (es.eraseIdxIfInBounds j) clock
            have het : (es.eraseIdxIfInBounds j).toList = es.toList.eraseIdx j := by
              unfold Array.eraseIdxIfInBounds
              rw [dif_pos (by simpa using hjl)]; simp
            refine ⟨_, _, h, ?_, hi.mapTo (rowsOf hxs) k1 (by rw [het, List.length_eraseIdx_of_lt hjl, List.length_eraseIdx_of_lt (by omega), k4]) (fun i e r' h1 h2 => ?_) r2⟩
            · unfold Builtin.delete_
              simp only [ht0, List.getElem?_toArray, List.getElem?_cons_zero, List.getElem?_cons_succ, Sem.run_bind, run_underlying d1, Result.andThen_ok, MapKept.run_getObj_map k3, hck, hfk, Option.bind_some, hej, Option.map_some, r1, Sem.run_pure]
            · rw [het, List.getElem?_eraseIdx] at h1
              rw [List.getElem?_eraseIdx] at h2
              split at h1
              · rename_i hij
                rw [if_pos hij] at h2
                exact k5 i e r' h1 h2
              · rename_i hij
                rw [if_neg hij] at h2
                exact k5 (i + 1) e r' h1 h2
      · exact h.elim
    · exact h.elim
  · exact h.elim
/-- The operations of uop, and those on maps. -/
def mop (P : Program) (d : Nat) (op : Op) (st : St) (k : G → St → Prop) : Prop :=
  match op with
  | .makeMap t none => makeMP P d t st k
  | .lookup t x key ok => lookP P t st (st.ev x) (st.ev key) ok fun g => k g st
  | .mapUpdate t m key x => updP P t st (st.ev m) (st.ev key) (st.ev x) fun st' => k .junk st'
  | .insert t m key x => updP P t st (st.ev m) (st.ev key) (st.ev x) fun st' => k .junk st'
  | .call { callee := .builtin .delete, args, argTypes } => delP P (args.toList.map st.ev) argTypes.toList st k
  | op => uop P d op st k
theorem mop_sound {o : Oper} {d : Nat} {k : G → St → Prop} (h : mop P d o.op st k) (hi : Inv C F st a w) : Goes P o a w (After F k a) := by
  obtain ⟨dst, op, ty, pos, aft, gd⟩ := o
  simp only at h
  unfold mop at h
  split at h
  · obtain ⟨z, w', h1, h2⟩ := makeM_sound h hi
    exact ⟨z, w', .inl (by simp only [execOp, Option.map_none]; exact run_bind_ok h1), h2⟩
  · obtain ⟨g, z, h1, h2, h3⟩ := look_sound h hi (hi.ev _) (hi.ev _)
    exact ⟨z, w, .inl (by simp only [execOp]; exact run_bind_ok h2), C, g, st, h1, hi, h3⟩
  · obtain ⟨st', w', h1, h2, h3⟩ := upd_sound h hi (hi.ev _) (hi.ev _) (hi.ev _)
    exact ⟨undef, w', .inr ⟨by simp only [execOp, Sem.run_bind, h2, Result.andThen_ok]; rfl, rfl⟩, C, .junk, st', h1, h3, .junk _⟩
  · obtain ⟨st', w', h1, h2, h3⟩ := upd_sound h hi (hi.ev _) (hi.ev _) (hi.ev _)
    exact ⟨undef, w', .inr ⟨by simp only [execOp, Sem.run_bind, h2, Result.andThen_ok]; rfl, rfl⟩, C, .junk, st', h1, h3, .junk _⟩
  · obtain ⟨st', w', h1, h2, h3⟩ := del_sound h hi rfl rfl ty
    refine ⟨.tuple #[], w', .inl ?_, C, _, st', h1, h3, .tup [] [] rfl (fun i g v hg => by simp at hg)⟩
    simp only [execOp, resolve, Sem.run_bind, Sem.run_pure, Result.andThen_ok, invoke, builtin, h2]
  · exact uop_sound (o := ⟨dst, _, ty, pos, aft, gd⟩) h hi
end
end Go.Proofs.YtijohhdgecadnaaDoor.Av
namespace Go.Proofs.YtijohhdgecadnaaDoor.Av
open Go Go.RowKit
set_option linter.unusedVariables false
set_option linter.unusedSimpArgs false
def isF : G → Bool
  | .ownf .. => true
  | _ => false
def isIntT (P : Program) (t : TypeId) : Bool :=
  match P.underlying t with
  | some (.int _) => true
  | _ => false
def capP (P : Program) (gs : List G) (ts : List TypeId) (k : G → Prop) : Prop :=
  match gs, ts with
  | [.ownf kk off len N], [t] => match P.underlying t with
    | some (.slice _) => k (.int .i64 ((N - off : Nat) : Int))
    | _ => False
  | _, _ => False
/-- An append of so many zero values where there is no room: a new row. -/
def appM (P : Program) (d : Nat) (s x : G) (tS : TypeId) (st : St) (k : G → St → Prop) : Prop :=
  match P.underlying tS, s, x with
  | some (.slice e), .ownf kk off len N, .int .i64 m => match st.rows.getD kk none, zeroCells P e with
    | some xs, some zc => bif zc.all G.closed0 && !(Nat.beq (P.bytesOf e) 0) && !(Nat.beq (P.cellsOf e) 0) && Nat.blt d st.rows.length && (st.rows.getD d none).isNone then
        (0 ≤ m ∧ N < off + len + m.toNat ∧ off + len ≤ xs.length ∧ fitsB P e (len + m.toNat) ∧ ∀ r ∈ xs, r.length = P.cellsOf e) ∧ k (.own d 0 (len + m.toNat)) (st.setRow d ((xs.drop off).take len ++ List.replicate m.toNat zc))
        else False
    | _, _ => False
  | _, _, _ => False
/-- What a copy of at most len elements reads. -/
def copySrc (st : St) (x : G) (len : Nat) (k : List (List G) → Prop) : Prop :=
  match ownG x with
  | .own kk off l => match st.rows.getD kk none with
    | some xs => off + min l len ≤ xs.length ∧ k ((xs.drop off).take (min l len))
    | none => False
  | .sl ys => ys.length ≤ len ∧ k ys
  | _ => False
def copyP (P : Program) (gs : List G) (ts : List TypeId) (st : St) (k : G → St → Prop) : Prop :=
  match gs, ts with
  | [dst, x], t :: _ => match P.underlying t, ownG dst with
    | some (.slice e), .own kk off len => match st.rows.getD kk none with
      | some xs => bif Nat.beq (P.cellsOf e) 0 then False else copySrc st x len fun ys => (okRows (P.cellsOf e) ys = true ∧ off + ys.length ≤ xs.length ∧ off < xs.length ∧ ∀ r ∈ xs, r.length = P.cellsOf e) ∧ k (.int .i64 (ys.length : Int)) (st.setRow kk (blitR xs off ys))
      | none => False
    | _, _ => False
  | _, _ => False
def Ovl (P : Program) (f : FuncId) (e : TypeId) : Prop :=
  ∃ fn tS tR, P.funcs[f]? = some fn ∧ (fn.name == "runtime.NumGoroutine") = false ∧ fn.body.isNone = true ∧ Extern.findNext fn = none ∧ Extern.find fn = some (Extern.SlicesOverlaps.overlaps #[tS, tS] #[tR]) ∧ P.underlying tS = some (.slice e) ∧ (P.info? e).isSome = true ∧ P.cellsOf e ≠ 0
def ovlP (P : Program) (f : FuncId) (gs : List G) (st : St) (k : G → St → Prop) : Prop :=
  match gs.map ownG with
  | [.own k1 o1 l1, .own k2 o2 l2] => match st.rows.getD k1 none, st.rows.getD k2 none with
    | some xs, some ys => (∃ e, Ovl P f e ∧ (∀ r ∈ ys, r.length = P.cellsOf e) ∧ k1 ≠ k2 ∧ 0 < xs.length ∧ 0 < ys.length) ∧ k (.bool false) st
    | _, _ => False
  | [.sl ys, .own k2 o2 l2] => match st.rows.getD k2 none with
    | some xs => (∃ e, Ovl P f e ∧ (∀ r ∈ ys, r.length = P.cellsOf e) ∧ 0 < ys.length ∧ 0 < xs.length) ∧ k (.bool false) st
    | _ => False
  | _ => False
/-- The second one is plain memory. -/
theorem run_overlaps_apart2 {P : Program} (w : World) (tS tR e : TypeId) (ht : P.underlying tS = some (.slice e)) (size : Nat) (hz : ∀ w, (Go.sizeOf e).run P w = .ok size w)
    (a b : Addr) (la ca lb cb : Nat) (hne : a.block ≠ b.block) (tA tB : TypeId) (kA kB : Nat)
    (hsa : w.shape? a.block = some (tA, kA)) (hsb : w.shape? b.block = some (tB, kB)) (hkA : kA ≠ 0)
    (hfb : w.frozen? b = false) (hfe : w.frozen? { block := b.block, off := kB } = false) :
    (Extern.SlicesOverlaps.overlaps #[tS, tS] #[tR] #[.slice (some a) la ca, .slice (some b) lb cb]).run P w = .ok (.bool false) w := by
  have hnb : (a.block != b.block) = true := by simpa using hne
  have hnb' : (a.block == b.block) = false := by simpa using hne
  change Sem.run P (α := Value) (do
    let some t := (#[tS, tS] : Array TypeId)[0]? | stuck "slices.overlaps: no parameter types"
    let .slice elem ← underlying t | stuck "slices.overlaps: slice type expected"
    let size ← sizeOf elem
    match (some a : Option Addr), (some b : Option Addr) with
    | some a, some b =>
      if la = 0 ∨ lb = 0 ∨ size = 0 then pure (Value.bool false)
      else if a.block != b.block && (← frozen a) && (← frozen b) then unsupported .addressObserved
      else do
        if a.block != b.block then do
          noView a; noView b
          if ← mayBeOne a b then return Value.bool ((← choose (.extern "sameAddr.stringBytes" 2)) == 1)
        pure (Value.bool (a.block == b.block && a.off < b.off + lb * size && b.off < a.off + la * size))
    | _, _ => pure (Value.bool false)) w = _
  by_cases h0 : la = 0 ∨ lb = 0 ∨ size = 0
  · simp [run_underlying ht, hz, h0]
  · cases kA with
    | zero => exact absurd rfl hkA
    | succ kA =>
      cases hfa : w.frozen? a <;> cases hfae : w.frozen? { block := a.block, off := kA + 1 } <;>
      simp [run_underlying ht, hz, h0, hnb, hnb', frozen, noView, viewAt, mayBeOne, stringish, shape, Sem.run, hsa, hsb, hfa, hfae, hfb, hfe]
theorem wrap_id64 {z : Int} (h : -9223372036854775808 ≤ z ∧ z ≤ 9223372036854775807) : IntKind.i64.wrap z = z := by
  unfold IntKind.wrap IntKind.bits IntKind.signed
  simp only [Bool.true_and]
  split
  · rename_i h2; simp at h2; omega
  · rename_i h2; simp at h2; omega
theorem frozen_any (hov : ovlK.isEmpty = false) {w : World} {B : Nat} {vs : List Value} {T : TypeId} {fz : Nat × Nat} (h : w.heap[B]? = some (.cells ⟨vs⟩ T fz)) (hf : ∀ o : Nat, (o < vs.length ∨ ovlK.isEmpty = false) → ¬ (fz.1 ≤ o ∧ o < fz.2)) (p : Nat) : w.frozen? ⟨B, p, none⟩ = false := frozen_of_block h p (hf p (.inr hov))
section
variable {P : Program} {C : Cx} {F : Fd} {st : St} {a : Act} {w : World}
theorem cap_sound {gs : List G} {ts : List TypeId} {k : G → Prop} (h : capP P gs ts k) (hi : Inv C F st a w) {args : Array Operand} (hg : args.toList.map st.ev = gs) {ats : Array TypeId} (ht : ats.toList = ts) (ty : TypeId) :
    ∃ g z, k g ∧ (Builtin.cap_ ats ty (args.map a.eval)).run P w = .ok z w ∧ Rep C w g z := by
  unfold capP at h
  split at h
  · rename_i kk off len N t
    split at h
    · rename_i e hu
      obtain ⟨X, hX, hXe⟩ := map_one hg
      have hr := hi.ev X
      rw [hXe] at hr
      generalize hv : a.eval X = v at hr
      have e1 : ats = #[t] := by apply Array.toList_inj.1; simpa using ht
      have e0 : args.map a.eval = #[v] := by apply Array.toList_inj.1; simp [hX, hv]
      subst e1
      cases hr with
      | ownf _ _ _ B s sz _ A hr ho hA hn =>
        refine ⟨_, .int .i64 ((N - off : Nat) : Int), h, ?_, .int ..⟩
        rw [e0]
        simp [Builtin.cap_, run_underlying hu, goInt]
    · exact h.elim
  · exact h.elim
theorem zeros_rep {e : TypeId} {zc : List G} (hz : zeroCells P e = some zc) (hcl : ∀ g ∈ zc, g.closed0 = true) (hp : 0 < P.cellsOf e) (n : Nat) {z : Value} (hrun : (zeroValue e).run P w = .ok z w) : Cols C w (P.cellsOf e) (List.replicate n zc) (Builtin.zeroCells z.cells n).toList := by
  obtain ⟨z', z1, z2, z3, z4, z5⟩ := zeroCells_sound hz w
  rw [hrun] at z1; cases z1
  have hzs : z.cells.size = P.cellsOf e := by rw [← Array.length_toList, z2, z3]
  refine ⟨by rw [zeros_len, hzs, List.length_replicate], zeros_one (fun v hv => z4 v hv) (by rw [hzs]; exact hp) n, fun r hr => ?_, fun i r j g v a1 a2 a3 => ?_⟩
  · rw [List.eq_of_mem_replicate hr]; exact ⟨z3, hcl⟩
  · have hr : r = zc := List.eq_of_mem_replicate (List.mem_of_getElem? a1)
    subst hr
    have hi' : i < n := by have := (List.getElem?_eq_some_iff.1 a1).1; simpa using this
    have hj : j < z.cells.size := by rw [hzs, ← z3]; exact (List.getElem?_eq_some_iff.1 a2).1
    have := zeros_get (z := z.cells) hi' hj
    rw [hzs] at this
    rw [this] at a3
    exact (z5 C w j g v a2 a3).2
theorem appM_sound {d : Nat} {s x : G} {tS tX : TypeId} {k : G → St → Prop} (h : appM P d s x tS st k) (hX : isIntT P tX = true) (hi : Inv C F st a w) {u v : Value} (hs : Rep C w s u) (hx : Rep C w x v) {argTypes : Array TypeId} {ty : TypeId}
    (ht0 : argTypes[0]? = some tS) (ht1 : argTypes[1]? = some tX) : ∃ z w', (Builtin.append_ argTypes ty #[u, v]).run P w = .ok z w' ∧ After F k a z w' := by
  unfold appM at h
  split at h
  · rename_i e kk off len N m hu
    split at h
    · rename_i xs zc hxs hzc
      cases hq : zc.all G.closed0 && !(Nat.beq (P.bytesOf e) 0) && !(Nat.beq (P.cellsOf e) 0) && Nat.blt d st.rows.length && (st.rows.getD d none).isNone with
      | false => rw [hq] at h; exact h.elim
      | true =>
        rw [hq] at h
        simp only [Bool.and_eq_true, List.all_eq_true, Bool.not_eq_true'] at hq
        obtain ⟨⟨⟨⟨q1, q2⟩, q3⟩, q4⟩, q5⟩ := hq
        have hb : 0 < P.bytesOf e := Nat.pos_of_ne_zero (Nat.ne_of_beq_eq_false q2)
        have hp : 0 < P.cellsOf e := Nat.pos_of_ne_zero (Nat.ne_of_beq_eq_false q3)
        have q4 := Nat.le_of_ble_eq_true q4
        obtain ⟨⟨c1, c2, c3, c4, c5⟩, h⟩ := h
        obtain rfl := hx.int_inv
        have hdn : C.row d = none := by
          cases hc : C.row d with
          | none => rfl
          | some r =>
            obtain ⟨ys, hys⟩ := hi.mem.domR d r hc
            rw [List.getD_eq_getElem?_getD, hys] at q5; cases q5
        obtain ⟨qi, hXi⟩ : ∃ qi, P.underlying tX = some (.int qi) := by
          unfold isIntT at hX
          split at hX
          · rename_i qi hqi; exact ⟨qi, hqi⟩
          · cases hX
        obtain ⟨ii, hii⟩ : ∃ ii, P.info? e = some ii := by
          unfold Program.cellsOf at hp
          cases hq : P.info? e with
          | none => rw [hq] at hp; simp at hp
          | some i => exact ⟨i, rfl⟩
        have hbe : ii.bytes = P.bytesOf e := by unfold Program.bytesOf; rw [hii]; rfl
        have hneed : (5 * (len + m.toNat) + 4096) * P.bytesOf e ≤ 1125899906842624 := c4
        have hneed1 : len + m.toNat ≤ 281474976710656 := by
          have : (5 * (len + m.toNat) + 4096) * 1 ≤ (5 * (len + m.toNat) + 4096) * P.bytesOf e := Nat.mul_le_mul_left _ hb
          omega
        obtain ⟨z, hz, hzr⟩ := zeroCells_sound hzc w.drew
        have hzr2 : (zeroValue e).run P w = .ok z w := by
          obtain ⟨z', hz', _⟩ := zeroCells_sound hzc w
          have : z' = z := by
            have e1 : ∀ w, ∃ zz, (zeroValue e).run P w = .ok zz w := fun w => ⟨_, (zeroCells_sound hzc w).choose_spec.1⟩
            unfold zeroValue at hz hz'
            rw [Sem.run_bind, Go.run_typeInfo w hii, Result.andThen_ok] at hz'
            rw [Sem.run_bind, Go.run_typeInfo w.drew hii, Result.andThen_ok] at hz
            cases hzi : ii.zero with
            | none => rw [hzi] at hz'; simp at hz'
            | some zz => rw [hzi] at hz hz'; simp at hz hz'; rw [← hz, ← hz']
          rw [← this]; exact hz'
        have hzs : z.cells.size = P.cellsOf e := by rw [← Array.length_toList, hzr.1, hzr.2.1]
        have hzc2 := zeros_rep (C := C) (w := w) hzc q1 hp m.toNat hzr2
        obtain ⟨c, hc, hcle⟩ := run_choose_cap (P := P) (w := w) (len + m.toNat) (N - off) e
        -- what was there
        obtain ⟨_, rfl, hlen2, hread2⟩ := src_sound (P := P) (st := st) (x := .own kk off len) (k := fun zs => zs = (xs.drop off).take len) (by simp only [srcP, hxs]; exact ⟨c3, trivial⟩) hi hs.of_ownf hp
        have hold : ((xs.drop off).take len).length = len := by simp; omega
        cases hs with
        | ownf _ _ _ B s0 sz _ A hr ho hA hn0 =>
          rcases hi.mem.row2 (rowsOf hxs) (fun km => km.np hr hn0) with ⟨k1, rfl⟩ | ⟨B', s', sz', n', vs, T, fz, k1, k2, k3, k4, k5, k6, k6b, k7, k8⟩
          · rw [hr] at k1; cases k1
          rw [hr] at k1; cases k1
          have hm1 : 0 < m.toNat := by omega
          have hcap : ¬ (Builtin.nextslicecap (len + m.toNat) (N - off) * ii.bytes > 2 ^ 48) := by
            have h1 := nextcap_bytes (show N - off < len + m.toNat by omega) hneed
            rw [hbe]
            omega
          obtain ⟨us, hus, hcu⟩ := hread2 (fun r hr => ⟨c5 r (List.mem_of_mem_drop (List.mem_of_mem_take hr)), (k7 r (List.mem_of_mem_drop (List.mem_of_mem_take hr))).2⟩)
          rw [hold] at hus
          have hrest := zeros_one (z := z.cells) (fun v hv => hzr.2.2.1 v hv) (by rw [hzs]; exact hp) (c - (len + m.toNat))
          let rest := (Builtin.zeroCells z.cells (c - (len + m.toNat))).toList
          let ws := (Builtin.zeroCells z.cells m.toNat).toList
          have hcc := hcu.append hzc2
          have hlc : (us ++ ws).length = (len + m.toNat) * P.cellsOf e := by rw [hcc.len, List.length_append, hold, List.length_replicate]
          have hrun : (Builtin.append_ argTypes ty #[.slice (some A) len (N - off), .int .i64 m]).run P w = .ok (.slice (some ⟨w.heap.size, 0, none⟩) (len + m.toNat) c) (w.drew.alloc (.cells ⟨us ++ ws ++ rest⟩ e)) := by
            have a0 : (#[Value.slice (some A) len (N - off), .int .i64 m])[0]? = some (.slice (some A) len (N - off)) := rfl
            have a1 : (#[Value.slice (some A) len (N - off), .int .i64 m])[1]? = some (.int .i64 m) := rfl
            have hmb : (m.toNat : Int) * (P.bytesOf e : Int) ≤ 281474976710656 := by
              have : 4 * m.toNat * P.bytesOf e ≤ (5 * (len + m.toNat) + 4096) * P.bytesOf e := Nat.mul_le_mul_right _ (by omega)
              rw [Nat.mul_assoc] at this
              have h3 : m.toNat * P.bytesOf e ≤ 281474976710656 := by omega
              have h4 : ((m.toNat * P.bytesOf e : Nat) : Int) ≤ 281474976710656 := by omega
              rw [Int.natCast_mul] at h4; exact h4
            have hw : IntKind.i64.wrap m = m := wrap_id64 (by omega)
            have hm2 : (m.toNat : Int) = m := by omega
            unfold Builtin.append_
            simp only [ht0, ht1, a0, a1, Sem.run_bind, run_underlying hu, Result.andThen_ok, Go.run_sizeOf _ hii, run_underlying hXi, Sem.run_pure, if_true, asInt, asIntOf, hw, Sem.run_ite, run_typeInfo _ hii, hbe]
            rw [if_neg (by omega), if_neg (by rw [hm2] at hmb; omega)]
            simp only [Sem.run_pure, Result.andThen_ok, Sem.run_bind, Sem.run_ite, Bool.not_true, Bool.false_eq_true, if_false, run_typeInfo _ hii, hbe]
            rw [if_neg (by omega), if_neg (by simp [IntKind.max, IntKind.signed, IntKind.bits]; omega), if_neg (by rw [← hbe]; exact hcap)]
            rw [hc]
            have h0 : ¬ (m.toNat * P.cellsOf e = 0) := fun h => by
              rcases Nat.mul_eq_zero.1 h with h | h <;> omega
            simp only [Result.andThen_ok, Sem.run_bind, run_typeInfo _ hii, run_askRoom, hus w.drew rfl, Sem.run_ite, h0, if_false, hz, Sem.run_pure, newRow, run_newObj]
            have e1 : ((⟨us⟩ : Array Value) ++ Builtin.zeroCells z.cells m.toNat ++ Builtin.zeroCells z.cells (c - (len + m.toNat))) = ⟨us ++ ws ++ rest⟩ := by
              apply Array.toList_inj.1; simp [rest, ws]
            rw [e1]
            rfl
          obtain ⟨C2, hI2, hk2⟩ := (hi.drew).newRow (k := d) hdn q4 (sz := P.cellsOf e) (n := c) (vs := us ++ ws ++ rest) (T := e) (fz := (0, 0)) (xs := (xs.drop off).take len ++ List.replicate m.toNat zc)
            (by rw [List.length_append (as := us ++ ws), hlc]; simp only [rest, zeros_len, hzs, ← Nat.add_mul]; exact Nat.mul_le_mul_right _ (by omega)) (by rw [List.length_append, hold, List.length_replicate]; omega)
            (fun q hq => by
              rcases List.mem_append.1 hq with hq | hq
              · exact hcc.one q hq
              · exact hrest q hq) (fun o _ => by simp) hcc.row
            (fun i r j g q a1 a2 a3 => by
              have hj0 : j < P.cellsOf e := by rw [← (hcc.row r (List.mem_of_getElem? a1)).1]; exact (List.getElem?_eq_some_iff.1 a2).1
              have hi0 : i < len + m.toNat := by have := (List.getElem?_eq_some_iff.1 a1).1; rw [List.length_append, hold, List.length_replicate] at this; exact this
              rw [List.getElem?_append_left (by rw [hlc]; exact mul_lt hi0 hj0)] at a3
              exact (hcc.rep i r j g q a1 a2 a3).keep0 ((hcc.row r (List.mem_of_getElem? a1)).2 g (List.mem_of_getElem? a2)) ⟨Nat.le_refl _, fun _ _ _ => rfl, fun _ vs _ fz h => ⟨vs, fz, h, rfl⟩⟩ (fun B _ hn => hn))
          refine ⟨_, _, hrun, C2, _, _, h, hI2, ?_⟩
          have := Rep.own (C := C2) (w := w.drew.alloc (.cells ⟨us ++ ws ++ rest⟩ e)) d 0 (len + m.toNat) _ 0 (P.cellsOf e) c ⟨w.drew.heap.size, 0, none⟩ hk2 (by omega) ⟨fun _ => by simp, rfl, rfl⟩ (by omega)
          simpa using this
    · exact h.elim
  · exact h.elim
theorem copySrc_sound {x : G} {len : Nat} {k : List (List G) → Prop} (h : copySrc st x len k) (hi : Inv C F st a w) {v : Value} (hx : Rep C w x v) {sz : Nat} (hsz : 0 < sz) :
    ∃ ys l, k ys ∧ (Builtin.lenOf v).run P w = .ok l w ∧ Nat.min l len = ys.length ∧ ((∀ r ∈ ys, r.length = sz ∧ ∀ g ∈ r, g.closed0 = true) → ∃ ws, (Builtin.firstCells sz ys.length v).run P w = .ok ⟨ws⟩ w ∧ Cols C w sz ys ws) := by
  have hx := hx.ownG
  unfold copySrc at h
  generalize ownG x = y at h hx
  split at h
  · rename_i kk off l
    split at h
    · rename_i xs hxs
      obtain ⟨c1, h⟩ := h
      have hl : ((xs.drop off).take (min l len)).length = min l len := by simp; omega
      have main : ∀ v', Rep C w (.own kk off (min l len)) v' → (∀ n, (Builtin.firstCells sz n v').run P w = (Builtin.firstCells sz n v).run P w) → ∃ ys l', k ys ∧ Nat.min l len = ys.length ∧ ((∀ r ∈ ys, r.length = sz ∧ ∀ g ∈ r, g.closed0 = true) → ∃ ws, (Builtin.firstCells sz ys.length v).run P w = .ok ⟨ws⟩ w ∧ Cols C w sz ys ws) ∧ l' = l := fun v' hv' he => by
        obtain ⟨_, rfl, _, hr⟩ := src_sound (P := P) (st := st) (x := .own kk off (min l len)) (k := fun zs => zs = (xs.drop off).take (min l len)) (by simp only [srcP, hxs]; exact ⟨c1, trivial⟩) hi hv' hsz
        refine ⟨_, l, h, hl.symm, fun hrow => ?_, rfl⟩
        obtain ⟨ws, h1, h2⟩ := hr hrow
        exact ⟨ws, by rw [← he]; exact h1 w rfl, h2⟩
      cases hx with
      | ownnil _ A hr =>
        obtain ⟨ys, l', m1, m2, m3, rfl⟩ := main (.slice A 0 0) (by rw [Nat.zero_min]; exact .ownnil kk A hr) (fun n => rfl)
        exact ⟨ys, 0, m1, rfl, m2, m3⟩
      | own _ _ _ B s z n A hr ho hA hn =>
        obtain ⟨ys, l', m1, m2, m3, rfl⟩ := main (.slice (some A) (min l len) (n - off)) (.own kk off _ B s z n A hr (by omega) hA hn) (fun n => rfl)
        exact ⟨ys, l', m1, rfl, m2, m3⟩
    · exact h.elim
  · rename_i ys
    obtain ⟨c1, h⟩ := h
    obtain ⟨_, rfl, h2, h3⟩ := src_sound (P := P) (st := st) (x := .sl ys) (k := fun zs => zs = ys) (by simp only [srcP]) hi hx hsz
    refine ⟨_, _, h, h2, Nat.min_eq_left c1, fun hrow => ?_⟩
    obtain ⟨ws, h4, h5⟩ := h3 hrow
    exact ⟨ws, h4 w rfl, h5⟩
  · exact h.elim
theorem copy_sound {gs : List G} {ts : List TypeId} {k : G → St → Prop} (h : copyP P gs ts st k) (hi : Inv C F st a w) {args : Array Operand} (hg : args.toList.map st.ev = gs) {ats : Array TypeId} (ht : ats.toList = ts) (ty : TypeId) :
    ∃ g st' z w', k g st' ∧ (Builtin.copy_ ats ty (args.map a.eval)).run P w = .ok z w' ∧ Inv C F st' a w' ∧ Rep C w' g z := by
  unfold copyP at h
  split at h
  · rename_i dst x t ts'
    obtain ⟨X, Y, hX, hXe, hYe⟩ := map_two hg
    have hd := (hi.ev X).ownG
    have hs := hi.ev Y
    rw [hXe] at hd
    rw [hYe] at hs
    generalize hv : a.eval X = v at hd
    generalize hu0 : a.eval Y = u at hs
    have e0 : args.map a.eval = #[v, u] := by apply Array.toList_inj.1; simp [hX, hv, hu0]
    have ht0 : ats[0]? = some t := by rw [← Array.getElem?_toList, ht]; rfl
    rw [e0]
    split at h
    · rename_i e kk off len hu hdst
      rw [hdst] at hd
      split at h
      · rename_i xs hxs
        cases hc : Nat.beq (P.cellsOf e) 0 with
        | true => rw [hc] at h; exact h.elim
        | false =>
          rw [hc] at h
          have hp : 0 < P.cellsOf e := Nat.pos_of_ne_zero (Nat.ne_of_beq_eq_false hc)
          obtain ⟨ii, hii⟩ : ∃ ii, P.info? e = some ii := by
            unfold Program.cellsOf at hp
            cases hq : P.info? e with
            | none => rw [hq] at hp; simp at hp
            | some i => exact ⟨i, rfl⟩
          simp only [cond_false] at h
          obtain ⟨ys, l, ⟨⟨c1, c2, c3, c4⟩, h⟩, hlen, hmin, hread⟩ := copySrc_sound (P := P) h hi hs hp
          obtain ⟨ws, hws, hcw⟩ := hread (okRows_iff c1)
          cases hd with
          | ownnil _ A hr =>
            rcases hi.mem.row2 (rowsOf hxs) (fun km => km.nn hr) with ⟨_, rfl⟩ | ⟨B', s', sz', n', vs, T, fz, k1, _⟩
            · simp at c3
            · rw [hr] at k1; cases k1
          | own _ _ _ B s sz n A hr ho hA hn0 =>
            rcases hi.mem.row2 (rowsOf hxs) (fun km => km.np hr hn0) with ⟨k1, rfl⟩ | ⟨B', s', sz', n', vs, T, fz, k1, k2, k3, k4, k5, k6, k6b, k7, k8⟩
            · simp at c3
            · rw [hr] at k1; cases k1
              obtain rfl := hA.1 (by omega)
              have hsz : sz = P.cellsOf e := by
                have hx0 : xs[0]? = some (xs[0]'(by omega)) := List.getElem?_eq_getElem (by omega)
                rw [← (k7 _ (List.mem_of_getElem? hx0)).1]; exact c4 _ (List.mem_of_getElem? hx0)
              subst hsz
              have hlw := hcw.len
              have hsp : s + off * P.cellsOf e + ws.length ≤ vs.length := by
                have : (off + ys.length) * P.cellsOf e ≤ n * P.cellsOf e := Nat.mul_le_mul_right _ (by omega)
                rw [Nat.add_mul] at this; omega
              obtain ⟨w', hw, hon⟩ := run_storeCells_on (P := P) B (s + off * P.cellsOf e) T fz ws 0 vs w k3 (by omega) hcw.one (fun o ho => k6 o (.inl ho))
              rw [Nat.add_zero] at hon
              refine ⟨_, _, .int .i64 (ys.length : Int), w', h, ?_, hi.blitRow (rowsOf hxs) hr k4 k5 k6 k6b k7 k8 hcw c2 hon, .int ..⟩
              unfold Builtin.copy_
              simp only [ht0, List.getElem?_toArray, List.getElem?_cons_zero, List.getElem?_cons_succ, Sem.run_bind, run_underlying hu, Result.andThen_ok, hlen, Go.run_sizeOf w hii, hmin, hws, hw, Sem.run_pure]
              rfl
      · exact h.elim
    · exact h.elim
  · exact h.elim
theorem map_two' {α β : Type} {f : α → β} {l : List α} {y z : β} (h : l.map f = [y, z]) : ∃ X Y, l = [X, Y] ∧ f X = y ∧ f Y = z := by
  match l, h with
  | [X, Y], h => simp at h; exact ⟨X, Y, rfl, h.1, h.2⟩
theorem ovl_sound (hov : ovlK.isEmpty = false) {f : FuncId} {gs : List G} {k : G → St → Prop} (h : ovlP P f gs st k) (hi : Inv C F st a w) {vs : List Value} (hl : vs.length = gs.length) (hr : ∀ (i : Nat) g v, gs[i]? = some g → vs[i]? = some v → Rep C w g v) :
    k (.bool false) st ∧ (callFunc f ⟨vs⟩).run P w = .ok (.value (.bool false)) w := by
  unfold ovlP at h
  split at h
  · rename_i k1 o1 l1 k2 o2 l2 heq
    split at h
    · rename_i xs ys hxs hys
      obtain ⟨⟨e, ⟨fn, tS, tR, g1, g2, g3, g4, g5, g6, g7, g8⟩, hyr, hne, hx0, hy0⟩, h⟩ := h
      refine ⟨h, ?_⟩
      obtain ⟨ga, gb, rfl, q1, q2⟩ : ∃ ga gb, gs = [ga, gb] ∧ ownG ga = .own k1 o1 l1 ∧ ownG gb = .own k2 o2 l2 := map_two' heq
      have heq : ownG ga = .own k1 o1 l1 ∧ ownG gb = .own k2 o2 l2 := ⟨q1, q2⟩
      clear q1 q2
      · match vs, hl with
        | [va, vb], _ =>
          have ha := (hr 0 ga va rfl rfl).ownG
          have hb := (hr 1 gb vb rfl rfl).ownG
          rw [heq.1] at ha
          rw [heq.2] at hb
          obtain ⟨ii, hii⟩ := Option.isSome_iff_exists.1 g7
          rw [run_callFunc_extern g1 g2 g3 g4 g5]
          have hrow : ∀ {kk off len : Nat} {zs : List (List G)} {v : Value}, Rep C w (.own kk off len) v → st.rows.getD kk none = some zs → 0 < zs.length →
              ∃ A cap us T fz q, v = .slice (some A) len cap ∧ C.row kk = some (some (A.block, q)) ∧ w.heap[A.block]? = some (.cells ⟨us⟩ T fz) ∧ A.spot = none ∧ (∀ o : Nat, (o < us.length ∨ ovlK.isEmpty = false) → ¬ (fz.1 ≤ o ∧ o < fz.2)) ∧ (∀ r ∈ zs, r.length ≤ us.length) := fun {kk off len zs v} hv hz h0 => by
            cases hv with
            | ownnil _ A hq =>
              rcases hi.mem.row2 (rowsOf hz) (fun km => km.nn hq) with ⟨_, rfl⟩ | ⟨_, _, _, _, _, _, _, q1, _⟩
              · simp at h0
              · rw [hq] at q1; cases q1
            | own _ _ _ B s sz n A hq ho hA hn0 =>
              rcases hi.mem.row2 (rowsOf hz) (fun km => km.np hq hn0) with ⟨_, rfl⟩ | ⟨B', s', sz', n', us, T, fz, q1, q2, q3, q4, q5, q6, q6b, q7, q8⟩
              · simp at h0
              · rw [hq] at q1; cases q1
                obtain ⟨hA1, rfl, hA3⟩ := hA
                refine ⟨A, _, us, T, fz, _, rfl, hq, q3, hA3, q6, fun r hr => ?_⟩
                rw [(q7 r hr).1]
                have : 1 * sz ≤ n * sz := Nat.mul_le_mul_right _ (by omega)
                omega
          obtain ⟨A, ca, us, T, fz, q, rfl, a1, a2, a3, a4, _⟩ := hrow ha hxs hx0
          obtain ⟨A', cb, us', T', fz', q', rfl, b1, b2, b3, b4, b5⟩ := hrow hb hys hy0
          have hblk : A.block ≠ A'.block := fun e0 => hne (hi.mem.rr k1 k2 A.block _ _ _ _ _ _ a1 (by rw [e0]; exact b1))
          have shp : ∀ {B : Nat} {us : List Value} {T : TypeId} {fz : Nat × Nat}, w.heap[B]? = some (.cells ⟨us⟩ T fz) → w.shape? B = some (T, us.length) := fun {B us T fz} hB => by unfold World.shape?; rw [hB]; simp
          have hlen : us'.length ≠ 0 := by
            have hr0 := ys[0]'hy0
            have h1 := b5 _ (List.getElem_mem hy0)
            have h2 := hyr _ (List.getElem_mem hy0)
            omega
          obtain ⟨ab, ao, asp⟩ := A
          simp only at a3; subst a3
          have hrun := Lib.run_overlaps_apart (P := P) w tS tR e g6 ii.size (fun w => by rw [Go.run_sizeOf w hii]; simp [Program.cellsOf, hii]) ⟨ab, ao, none⟩ A' l1 ca l2 cb hblk T T' us.length us'.length (shp a2) (shp b2) hlen
            (frozen_any hov a2 a4 ao) (frozen_any hov a2 a4 us.length)
          rw [hrun]; rfl
    · exact h.elim
  · rename_i ys k2 o2 l2 heq
    split at h
    · rename_i xs hxs
      obtain ⟨⟨e, ⟨fn, tS, tR, g1, g2, g3, g4, g5, g6, g7, g8⟩, hyr, hy0, hx0⟩, h⟩ := h
      refine ⟨h, ?_⟩
      obtain ⟨ga, gb, rfl, q1, q2⟩ : ∃ ga gb, gs = [ga, gb] ∧ ownG ga = .sl ys ∧ ownG gb = .own k2 o2 l2 := map_two' heq
      match vs, hl with
      | [va, vb], _ =>
        have ha := (hr 0 ga va rfl rfl).ownG
        have hb := (hr 1 gb vb rfl rfl).ownG
        rw [q1] at ha
        rw [q2] at hb
        obtain ⟨ii, hii⟩ := Option.isSome_iff_exists.1 g7
        rw [run_callFunc_extern g1 g2 g3 g4 g5]
        have shp : ∀ {B : Nat} {us : List Value} {T : TypeId} {fz : Nat × Nat}, w.heap[B]? = some (.cells ⟨us⟩ T fz) → w.shape? B = some (T, us.length) := fun {B us T fz} hB => by unfold World.shape?; rw [hB]; simp
        cases hb with
        | ownnil _ A hq =>
          rcases hi.mem.row2 (rowsOf hxs) (fun km => km.nn hq) with ⟨_, rfl⟩ | ⟨_, _, _, _, _, _, _, q1, _⟩
          · simp at hx0
          · rw [hq] at q1; cases q1
        | own _ _ _ B s sz n A hq ho hA hn0 =>
          rcases hi.mem.row2 (rowsOf hxs) (fun km => km.np hq hn0) with ⟨_, rfl⟩ | ⟨B', s', sz', n', us, T, fz, w1, w2, w3, w4, w5, w6, w6b, w7, w8⟩
          · simp at hx0
          · rw [hq] at w1; cases w1
            obtain ⟨hA1, rfl, hA3⟩ := hA
            cases ha with
            | slnil _ _ _ => simp at hy0
            | sl _ a cap sz f ha hlt hex hcap hsz hcl hcell hrep =>
              have h0 : ys[0]? = some (ys[0]'hy0) := List.getElem?_eq_getElem hy0
              have hl0 := hyr _ (List.mem_of_getElem? h0)
              have hj : (ys[0]'hy0)[0]? = some ((ys[0]'hy0)[0]'(by omega)) := List.getElem?_eq_getElem (by omega)
              have hc := hcell 0 _ 0 _ h0 hj
              unfold World.cell? at hc
              simp only at hc
              split at hc
              · rename_i c Ta fza hca
                simp only [Option.isSome_none, Bool.false_eq_true, if_false] at hc
                have hsz0 : c.size ≠ 0 := fun e0 => by rw [Array.getElem?_eq_none (by omega)] at hc; cases hc
                obtain ⟨ab, ao, asp⟩ := A
                simp only at hA3; subst hA3
                have hblk : a.block ≠ ab := fun e0 => hex (by rw [e0]; exact w2)
                have hrun := run_overlaps_apart2 (P := P) w tS tR e g6 ii.size (fun w => by rw [Go.run_sizeOf w hii]; simp [Program.cellsOf, hii]) a ⟨ab, ao, none⟩ ys.length cap l2 (n - o2) hblk Ta T c.size us.length
                  (by unfold World.shape?; rw [hca]) (shp w3) hsz0 (frozen_any hov w3 w6 ao) (frozen_any hov w3 w6 us.length)
                rw [hrun]; rfl
              · cases hc
    · exact h.elim
  · exact h.elim
/-- The operations of mop, and these. -/
def fop (P : Program) (d : Nat) (op : Op) (st : St) (k : G → St → Prop) : Prop :=
  match op with
  | .call { callee := .builtin .cap, args, argTypes } => capP P (args.toList.map st.ev) argTypes.toList fun g => k g st
  | .call { callee := .builtin .copy, args, argTypes } => copyP P (args.toList.map st.ev) argTypes.toList st k
  | op => mop P d op st k
theorem fop_sound {o : Oper} {d : Nat} {k : G → St → Prop} (h : fop P d o.op st k) (hi : Inv C F st a w) : Goes P o a w (After F k a) := by
  obtain ⟨dst, op, ty, pos, aft, gd⟩ := o
  simp only at h
  unfold fop at h
  split at h
  · obtain ⟨g, z, h1, h2, h3⟩ := cap_sound h hi rfl rfl ty
    refine ⟨z, w, .inl ?_, C, g, st, h1, hi, h3⟩
    simp only [execOp, resolve, Sem.run_bind, Sem.run_pure, Result.andThen_ok, invoke, builtin, h2]
  · obtain ⟨g, st', z, w', h1, h2, h3, h4⟩ := copy_sound h hi rfl rfl ty
    refine ⟨z, w', .inl ?_, C, g, st', h1, h3, h4⟩
    simp only [execOp, resolve, Sem.run_bind, Sem.run_pure, Result.andThen_ok, invoke, builtin, h2]
  · exact mop_sound (o := ⟨dst, _, ty, pos, aft, gd⟩) h hi
end
end Go.Proofs.YtijohhdgecadnaaDoor.Av
namespace Go.Proofs.YtijohhdgecadnaaDoor.Av
open Go Go.RowKit
set_option linter.unusedVariables false
set_option linter.unusedSimpArgs false

/-- Any machine; in a function's frame, or a round's. -/
def wideR (l : Option Nat) : Fence := { Fence.wide with round := l }
def wpB (P : Program) (c : Code) (Q : Exit → Act → World → Prop) (a : Act) (w : World) : Prop := ∀ l : Option Nat, c.wpIn (wideR l) 0 P Q a w

section
variable {P : Program} {Q : Exit → Act → World → Prop} {a : Act} {w : World}
theorem wpB.wp {c : Code} (h : wpB P c Q a w) : c.wp P Q a w := wpIn_wide.1 (h none)
theorem wpB_mono {c : Code} {Q' : Exit → Act → World → Prop} (h : wpB P c Q a w) (hq : ∀ e a w, Q e a w → Q' e a w) : wpB P c Q' a w := fun l => wpIn_mono (h l) hq
theorem wpB_skip (h : Q .normal a w) : wpB P .skip Q a w := fun l => wpIn_skip h
theorem wpB_label {l : Nat} (h : Q .normal a w) : wpB P (.label l) Q a w := fun _ => wpIn_label h
theorem wpB_exit {id : Nat} (h : Q (.exit id) a w) : wpB P (.exit id) Q a w := fun _ => wpIn_exit h
theorem wpB_goto {l : Nat} (h : Q (.goto l) a w) : wpB P (.goto l) Q a w := fun _ => wpIn_goto h
theorem wpB_ret (h : Q .ret a w) : wpB P .ret Q a w := fun _ => wpIn_ret h
theorem wpB_seq {x y : Code} (h : wpB P x (Exit.then (wpB P y Q) Q) a w) : wpB P (.seq x y) Q a w := fun l => wpIn_seq (wpIn_mono (h l) fun e a w q => by
  cases e with
  | normal => exact q l
  | _ => exact q)
theorem wpB_cond_split {c : Operand} {x y : Code} {t : Bool} (hc : a.eval c = .bool t) (ht : t = true → wpB P x Q a w) (hf : t = false → wpB P y Q a w) : wpB P (.cond c x y) Q a w := fun l =>
  wpIn_cond_split hc (fun e => ht e l) (fun e => hf e l)
theorem wpB_block {id : Nat} {c : Code} (h : wpB P c (Exit.inBlock id Q) a w) : wpB P (.block id c) Q a w := fun l => wpIn_block (h l)
def roundsB (P : Program) (c : Code) (Q : Exit → Act → World → Prop) : Nat → Act → World → Prop
  | 0, _, _ => False
  | m + 1, a, w => wpB P c (Exit.then (roundsB P c Q m) Q) a w
theorem roundsB_succ {c : Code} {m : Nat} : roundsB P c Q (m + 1) a w = wpB P c (Exit.then (roundsB P c Q m) Q) a w := rfl
theorem roundsB_in {c : Code} (l : Option Nat) : ∀ (m : Nat) (a : Act) (w : World), roundsB P c Q m a w → Code.roundsIn (wideR l) 0 P c Q m a w
  | 0, _, _, h => h.elim
  | m + 1, a, w, h => wpIn_mono (h l) fun e a w q => by
      cases e with
      | normal => exact roundsB_in l m a w q
      | _ => exact q
theorem wpB_loop_rounds {c : Code} (m : Nat) (h : roundsB P c Q m a w) : wpB P (.loop c) Q a w := fun l => wpIn_loop_rounds m (roundsB_in l m a w h)
end

theorem rowsIn_wideR {P : Program} {l : Option Nat} {n : Nat} {row : String} {args : Array Value} {w : World} {R : Value → World → Prop} (h : Rows P row args w R) : RowsIn (wideR l) n P row args w R :=
  fun c cs _ => let ⟨v, w', r, s⟩ := h c cs; ⟨v, w', r, by
    cases l with
    | none => exact stepsIn_wide.2 s
    | some l => exact (stepsIn_wide (P := P)).2 s⟩
theorem callsIn_wideR {P : Program} {l : Option Nat} {n : Nat} {f : FuncId} {args : Array Value} {w : World} {R : Ending → World → Prop} (h : Calls P f args w R) : CallsIn (wideR l) n P f args w R :=
  (callsIn_wide (n := n)).2 h

/-- An operation that pushes no deferred call, in any frame. -/
theorem lift_op {P : Program} {o : Oper} {a : Act} {w : World} {K : Act → World → Prop} {Q : Exit → Act → World → Prop} {ds : List Deferred} (h0 : a.defers = ds) (h : o.wp P a w (fun a w => a.defers = ds ∧ K a w) (fun _ _ _ => False)) (l : Option Nat) : o.wpIn (wideR l) 0 P a w K Q := by
  have put : ∀ v, (a.put o.dst v).defers = a.defers := fun v => by cases hd : o.dst <;> rfl
  have noo : ¬ LetsOut (fun (_ : Exit) (_ : Act) (_ : World) => False) := fun ⟨_, _, h⟩ => h
  refine ⟨fun f _ => trivial, ?_⟩
  by_cases hd : ∃ c, o.op = .defer c
  · exfalso
    obtain ⟨c, hc⟩ := hd
    unfold Oper.wp execOp at h
    simp only [hc, Sem.run_bind] at h
    generalize (resolve a.eval c o.type).run P w = r at h
    cases r with
    | ok d w' =>
      simp only [Result.andThen_ok, Sem.run_pure, Oper.upon_defer] at h
      have h1 := h.1
      have e : ({ a with defers := d :: a.defers } : Act).put o.dst undef = { a.put o.dst undef with defers := d :: a.defers } := by cases o.dst <;> rfl
      rw [e] at h1
      have h2 : d :: a.defers = ds := h1
      rw [h0] at h2
      have := congrArg List.length h2
      simp at this
    | halt x w' =>
      cases x <;> simp only [Result.andThen, Oper.upon] at h
  · have e : Oper.semAt (wideR l).round a.eval o = execOp a.eval o := Oper.semAt_eq _ _ _ fun c hc => hd ⟨c, hc⟩
    rw [e]
    unfold Oper.wp at h
    generalize (execOp a.eval o).run P w = r at h
    cases r with
    | halt x w' => cases x <;> simp only [Oper.upon] at h
    | ok x w' =>
      cases x with
      | value v => exact h.2
      | skip => exact h.2
      | defer d =>
        exfalso
        have h1 := h.1
        have e : ({ a with defers := d :: a.defers } : Act).put o.dst undef = { a.put o.dst undef with defers := d :: a.defers } := by cases o.dst <;> rfl
        rw [e] at h1
        have h2 : d :: a.defers = ds := h1
        rw [h0] at h2
        have := congrArg List.length h2
        simp at this
      | enter f args =>
        rw [Oper.upon_enter] at h
        refine ⟨fun hx => (by cases hx), callsIn_wideR (Calls.mono h fun e w'' he => ?_)⟩
        cases e with
        | returned v => exact he.2
        | panicked ch => exact he.elim
        | outgrown => exact absurd he noo
      | row r args =>
        rw [Oper.upon_row] at h
        exact ⟨fun hx => (by cases hx), rowsIn_wideR (Rows.mono h fun v w'' he => he.2)⟩
      | _ => exact h.elim

/-- Operations one behind the other, where none is let out. -/
def wpL (P : Program) (ops : Array Oper) (ds : List Deferred) (Q : Act → World → Prop) : List Oper → Act → World → Prop
  | [], a, w => Q a w
  | o :: rest, a, w =>
    if Region.wanted o (yielded ops a.tmps) then o.wp P a w (fun a w => a.defers = ds ∧ wpL P ops ds Q rest a w) (fun _ _ _ => False) else wpL P ops ds Q rest (a.put o.dst undef) w
theorem put_defers (a : Act) (d : Option Tmp) (v : Value) : (a.put d v).defers = a.defers := by cases d <;> rfl
theorem wpL_in {P : Program} {ops : Array Oper} {Q : Exit → Act → World → Prop} {ds : List Deferred} (l : Option Nat) : ∀ (os : List Oper) (a : Act) (w : World), a.defers = ds → wpL P ops ds (Q .normal) os a w → wpListIn (wideR l) 0 P ops Q os a w
  | [], a, w, _, h => h
  | o :: rest, a, w, h0, h => by
    unfold wpL at h
    unfold wpListIn
    split
    · rename_i hw
      rw [if_pos hw] at h
      exact Oper.wpIn_mono (K := fun a w => a.defers = ds ∧ wpL P ops ds (Q .normal) rest a w) (fun a w q => wpL_in l rest a w q.1 q.2) (lift_op h0 (by unfold Oper.wp at h ⊢; exact Oper.wp_mono (Q := fun _ _ _ => False) (fun a w q => ⟨q.1, q⟩) h) l)
    · rename_i hw
      rw [if_neg hw] at h
      exact ⟨fun f _ => trivial, wpL_in l rest _ w ((put_defers ..).trans h0) h⟩
theorem wpB_region {P : Program} {id : Nat} {ops : Array Oper} {Q : Exit → Act → World → Prop} {a : Act} {w : World} {ds : List Deferred} (h0 : a.defers = ds) (h : wpL P ops ds (Q .normal) ops.toList a w) : wpB P (.region id ops false) Q a w :=
  fun l => wpIn_region_list (wpL_in l _ a w h0 h)

/-- An operation of a region that draws. -/
theorem wpOp_in {P : Program} {ops : Array Oper} {Q : Exit → Act → World → Prop} {i : Nat} {K : Act → World → Prop} {a : Act} {w : World} {ds : List Deferred} (h0 : a.defers = ds)
    (h : wpOp P ops (fun _ _ _ => False) i (fun a w => a.defers = ds ∧ K a w) a w) (l : Option Nat) : wpOpIn (wideR l) 0 P ops Q i K a w := by
  have noo : ¬ LetsOut (fun (_ : Exit) (_ : Act) (_ : World) => False) := fun ⟨_, _, h⟩ => h
  unfold wpOp at h
  unfold wpOpIn
  split
  · rename_i ho; simp only [ho] at h; exact h.2
  · rename_i o ho
    simp only [ho] at h
    split
    · rename_i hw
      rw [if_pos hw] at h
      exact lift_op h0 (h.resolve_right fun q => noo q.2) l
    · rename_i hw
      rw [if_neg hw] at h
      exact ⟨fun f _ => trivial, h.2⟩
end Go.Proofs.YtijohhdgecadnaaDoor.Av
namespace Go.Proofs.YtijohhdgecadnaaDoor.Av
open Go Go.RowKit
set_option linter.unusedVariables false
set_option linter.unusedSimpArgs false

/-- A call of a Go function: by values; or its own things are lent, or handed by place. -/
def callP (P : Program) (d : Nat) (f : FuncId) (gs : List G) (st : St) (k : G → St → Prop) : Prop :=
  bif gs.all G.closed then (∃ g, Fv P f gs g ∧ bif g.closedR then k g st else False) ∨ placeP P d f gs st k
  else lendP P f gs st k ∨ placeP P d f gs st k
/-- A function without a body that hands its argument back. -/
def NoEsc (P : Program) (f : FuncId) : Prop := ∃ fn, P.funcs[f]? = some fn ∧ (fn.name == "runtime.NumGoroutine") = false ∧ fn.body.isNone = true ∧ Extern.findNext fn = none ∧ Extern.find fn = some Extern.AbiNoEscape.same
def isUns (P : Program) (ts : List TypeId) : Bool :=
  match ts with
  | [t] => match P.underlying t with
    | some .unsafePointer => true
    | _ => false
  | _ => false
def escP (P : Program) (f : FuncId) (gs : List G) (st : St) (k : G → St → Prop) : Prop :=
  match gs with
  | [g] => NoEsc P f ∧ k g st
  | _ => False
/-- Boxes that are given away at once: read from then on as a foreign element. (A list of the seat's own: the slots that they are told in.) -/
def givK : List Nat := []
def givB (o : Oper) : Bool :=
  match o.op, o.dst with
  | .box .., some d => givK.any (Nat.beq d)
  | _, _ => false
def givP (x : G) (k : G → Prop) : Prop := bif okReg x && x.cells.all G.closed0 then k (.elt x.cells 0) else False
theorem giv_sound {C : Cx} {F : Fd} {st : St} {a : Act} {w : World} {t : TypeId} {x : Operand} {k : G → St → Prop} (h : givP (st.ev x) fun g => k g st) (hi : Inv C F st a w) :
    After F k a (.pointer (some ⟨w.heap.size, 0, none⟩)) (w.alloc (.cells (a.eval x).cells t)) := by
  unfold givP at h
  cases hq : okReg (st.ev x) && (st.ev x).cells.all G.closed0 with
  | false => rw [hq] at h; exact h.elim
  | true =>
    rw [hq] at h
    simp only [Bool.and_eq_true, List.all_eq_true] at hq
    obtain ⟨r1, r2, r3⟩ := (hi.ev x).cells (okReg_cases hq.1)
    have hI : Inv C F st a (w.alloc (.cells (a.eval x).cells t)) := hi.lt_alloc _
    have hnew : (w.alloc (.cells (a.eval x).cells t)).heap[w.heap.size]? = some (.cells (a.eval x).cells t (0, 0)) := by
      have e : (w.alloc (.cells (a.eval x).cells t)).heap = w.heap.push (.cells (a.eval x).cells t) := rfl
      rw [e, Array.getElem?_push_size]
    have hcells : ∀ (j : Nat) g, (st.ev x).cells[j]? = some g → ∃ v, (a.eval x).cells.toList[j]? = some v ∧ (a.eval x).cells[j]? = some v := fun j g hj => by
      have hlt : j < (a.eval x).cells.toList.length := by rw [r1]; exact (List.getElem?_eq_some_iff.1 hj).1
      exact ⟨_, List.getElem?_eq_getElem hlt, by rw [← Array.getElem?_toList]; exact List.getElem?_eq_getElem hlt⟩
    refine ⟨C, _, st, h, hI, .elt _ 0 w.heap.size 0 (fun j => (a.eval x).cells.getD j undef) (by simp) (fun hx => by have := hi.mem.lt _ hx; omega) hq.2 (fun j g hj => ?_) (fun j g hj => ?_)⟩
    · obtain ⟨v, h1, h2⟩ := hcells j g hj
      unfold World.cell?
      simp only [hnew, Option.isSome_none, Bool.false_eq_true, if_false, Nat.zero_add]
      rw [h2, Array.getD_eq_getD_getElem?, h2]; rfl
    · obtain ⟨v, h1, h2⟩ := hcells j g hj
      rw [Array.getD_eq_getD_getElem?, h2]
      exact ((r3 j g v hj h1).2).keep0 (hq.2 g (List.mem_of_getElem? hj)) (keeps_alloc _ w _) (fun _ _ h => h)
/-- The abstract law of an operation, calls too. -/
def cop (P : Program) (d : Nat) (o : Oper) (st : St) (k : G → St → Prop) : Prop :=
  match o.op with
  | .call { callee := .value f, args, argTypes } => match st.ev f with
    | .fn f caps => bif isUns P argTypes.toList then escP P f (args.toList.map st.ev ++ caps) st k else bif ovlK.any (Nat.beq f) then ovlP P f (args.toList.map st.ev ++ caps) st k else fS (args.toList.map st.ev ++ caps) fun gs => callP P d f gs st k
    | .meth f gs0 => fS (gs0 ++ args.toList.map st.ev) fun gs => callP P d f gs st k
    | _ => False
  | .call { callee := .builtin .append, args, argTypes } => match args.toList.map st.ev, argTypes[0]?, argTypes[1]? with
    | [s, x], some tS, some tX => bif isIntT P tX then appM P d s x tS st k else appP P d s x tS tX st k
    | _, _, _ => False
  | .buildSlice t len parts => bif bldB o then bldP P d t len parts st k else uop P d (.buildSlice t len parts) st k
  | .box t x => bif givB o then givP (st.ev x) (fun g => k g st) else fop P d (.box t x) st k
  | op => fop P d op st k

theorem St.put_len (st : St) (d : Option Tmp) (g : G) : (st.put d g).slots.length = st.slots.length := by cases d <;> simp [St.put]
theorem Inv.put {C : Cx} {F : Fd} {st : St} {a : Act} {w : World} (h : Inv C F st a w) (d : Option Tmp) {g : G} {v : Value} (hr : Rep C w g v) : Inv C F (st.put d g) (a.put d v) w := by
  cases d with
  | none => exact h
  | some d =>
    refine ⟨h.nd, by simp [St.put, Act.put, h.sz], fun i g' v' hg hv => ?_, h.mem, h.fr, h.ex0, h.exn, h.t0, h.tb, h.tr, fun b B hb => ⟨(h.fb b B hb).1, by rw [St.put_len]; exact (h.fb b B hb).2⟩⟩
    simp only [St.put, Act.put, List.getElem?_set, Array.getElem?_setIfInBounds] at hg hv
    by_cases e : d = i
    · subst e
      rw [if_pos rfl] at hg hv
      split at hg
      · rename_i hlt
        rw [if_pos (by rw [h.sz]; exact hlt)] at hv
        cases hg; cases hv; exact hr
      · cases hg
    · rw [if_neg e] at hg hv
      exact h.slots i g' v' hg hv

theorem resolve_fn {P : Program} {w : World} {ρ : Operand → Value} {f : Operand} {args : Array Operand} {ats : Array TypeId} {ty : TypeId} {n : FuncId} {caps : Array Value} (hf : ρ f = .func (.func n) #[] caps) :
    (resolve ρ { callee := .value f, args, argTypes := ats } ty).run P w = .ok { target := .fn (.func n) caps, args := args.map ρ } w := by
  unfold resolve
  simp only [hf, Deferred.ofValue, Sem.run_pure]
  simp
theorem resolve_meth {P : Program} {w : World} {ρ : Operand → Value} {f : Operand} {args : Array Operand} {ats : Array TypeId} {ty : TypeId} {n : FuncId} {first : Array Value} (hf : ρ f = .func (.func n) first #[]) :
    (resolve ρ { callee := .value f, args, argTypes := ats } ty).run P w = .ok { target := .fn (.func n) #[], args := first ++ args.map ρ } w := by
  unfold resolve
  simp only [hf, Deferred.ofValue, Sem.run_pure]
theorem run_callFunc {P : Program} {f : FuncId} (h : hasBody P f = true) (args : Array Value) (w : World) : (callFunc f args).run P w = .ok (.enter f args) w := by
  unfold hasBody at h
  split at h
  · rename_i fn hfn
    simp only [Bool.and_eq_true, bne_iff_ne] at h
    unfold callFunc
    simp only [Sem.run_bind, run_program, Result.andThen_ok, hfn]
    have h2 : fn.body.isNone = false := by
      cases hb : fn.body with
      | none => rw [hb] at h; simp at h
      | some _ => rfl
    simp [h.1, h2]
  · cases h

theorem call_sound {P : Program} {f : FuncId} {d : Nat} {gs : List G} {st : St} {k : G → St → Prop} {C : Cx} {F : Fd} {a : Act} {w : World} (h : callP P d f gs st k) (hi : Inv C F st a w) {vs : List Value} (hl : vs.length = gs.length)
    (hr : ∀ (i : Nat) g v, gs[i]? = some g → vs[i]? = some v → Rep C w g v) : hasBody P f = true ∧ Calls P f ⟨vs⟩ w fun e w' => ∃ v, e = .returned v ∧ After F k a v w' := by
  unfold callP at h
  cases hc : gs.all G.closed with
  | false =>
    rw [hc] at h
    rcases h with h | h
    · exact lend_sound h hi hl hr
    · exact place_sound h hi hl hr
  | true =>
    rw [hc] at h
    rcases h with h | h
    case inr => exact place_sound h hi hl hr
    obtain ⟨g, ⟨hb, hF⟩, h⟩ := h
    refine ⟨hb, ?_⟩
    cases hg : g.closedR with
    | false => rw [hg] at h; exact h.elim
    | true =>
      rw [hg] at h
      simp only [List.all_eq_true] at hc
      let C0 : Cx := { box := fun _ => none, row := fun _ => none, ex := C.ex }
      refine (hF C0 w (fun _ => False) _ hl (fun i g' v' hg' hv' => (hr i g' v' hg' hv').closed (hc _ (List.mem_of_getElem? hg')) (Keeps.refl _ _) (fun _ _ h => h)) (mem0 w C.ex hi.mem.lt) (fun _ h => h.elim) (fun _ _ h => (by cases h)) (fun _ _ _ _ _ h => (by cases h)) hi.fixed).mono fun e w' he => ?_
      obtain ⟨v, C', g', bs', rs', rfl, ⟨rfl, rfl, rfl⟩, hR, hM, hE⟩ := he
      refine ⟨v, rfl, C, g', st, h, ?_, ?_⟩
      · have hKeeps : Keeps C.ex w w' := ⟨hE.fr.size, fun B hB _ => hE.fr.block B hB (fun h => h), hE.fr.ty⟩
        have hlt : ∀ B, C.ex B → w'.heap[B]? = w.heap[B]? := fun B hB => hE.fr.block B (hi.mem.lt B hB) (fun h => h)
        exact hi.step ⟨hE.fr.os.trans hi.fr.os, hE.fr.tape.trans hi.fr.tape, hE.fr.output.trans hi.fr.output, Nat.le_trans hi.fr.size hE.fr.size, fun B hB hn => (hE.fr.block B (by have := hi.fr.size; omega) (fun h => h)).trans (hi.fr.block B hB hn), hi.fr.ty2 hE.fr⟩
          hKeeps (fun b B hB => hlt B (hi.mem.ltB hB)) (fun k B s sz n hk => hlt B (hi.mem.ltR hk)) C.ex (fun _ h => h) (fun _ h => .inl h) (fun B hB => by have := hi.mem.lt B hB; have := hE.fr.size; omega)
      · exact hR.closedR hg (Keeps.refl _ _) (fun B hB hn hx => hn (hE.ex B hx))

theorem cop_sound {P : Program} {o : Oper} {d : Nat} {st : St} {k : G → St → Prop} {C : Cx} {F : Fd} {a : Act} {w : World} (h : cop P d o st k) (hi : Inv C F st a w) {K : Act → World → Prop} {Q : Exit → Act → World → Prop}
    (hk : ∀ v w', After F k a v w' → K (a.put o.dst v) w') : o.wp P a w K Q := by
  unfold cop at h
  split at h
  · rename_i f args ats hop
    split at h
    · rename_i n caps hf
      cases hu : isUns P ats.toList with
      | true =>
        rw [hu] at h
        simp only [cond_true] at h
        unfold escP at h
        split at h
        · rename_i g heq
          obtain ⟨⟨fn, h1, h2, h3, h4, h5⟩, h⟩ := h
          have hr := hi.ev f
          rw [hf] at hr
          generalize hv : a.eval f = v at hr
          cases hr with
          | fn _ _ vs hl hcap =>
            have one : ∃ u, args.toList.map a.eval ++ vs = [u] ∧ Rep C w g u := by
              have hlen : (args.toList.map a.eval ++ vs).length = 1 := by
                have := congrArg List.length heq
                simp only [List.length_append, List.length_map, List.length_cons, List.length_nil] at this ⊢
                omega
              match hq : args.toList.map a.eval ++ vs, hlen with
              | [u], _ =>
                refine ⟨u, rfl, ?_⟩
                by_cases hlt : 0 < args.toList.length
                · obtain ⟨x, xs, hx⟩ : ∃ x xs, args.toList = x :: xs := by cases hl : args.toList with | nil => rw [hl] at hlt; simp at hlt | cons x xs => exact ⟨x, xs, rfl⟩
                  rw [hx] at heq hq
                  simp only [List.map_cons, List.cons_append, List.cons.injEq] at heq hq
                  rw [← heq.1, ← hq.1]; exact hi.ev x
                · have hx : args.toList = [] := List.length_eq_zero_iff.1 (by omega)
                  rw [hx] at heq hq
                  simp only [List.map_nil, List.nil_append] at heq hq
                  exact hcap 0 g u (by rw [heq]; rfl) (by rw [hq]; rfl)
            obtain ⟨u, hu1, hu2⟩ := one
            refine Goes.wp (R := After F k a) ⟨u, w, .inl ?_, C, g, st, h, hi, hu2⟩ hk
            obtain ⟨dst, op, ty, pos, aft, gd⟩ := o
            simp only at hop; subst hop
            simp only [execOp]
            rw [Sem.run_bind, resolve_fn hv, Result.andThen_ok]
            simp only [invoke]
            rw [run_callFunc_extern h1 h2 h3 h4 h5]
            have e1 : args.map a.eval ++ (⟨vs⟩ : Array Value) = #[u] := by apply Array.toList_inj.1; simpa using hu1
            rw [e1, Lib.run_noEscape]; rfl
        · exact h.elim
      | false =>
      rw [hu] at h
      simp only [cond_false] at h
      have hr := hi.ev f
      rw [hf] at hr
      generalize hv : a.eval f = v at hr
      cases hr with
      | fn _ _ vs hl hcap =>
        cases hov : ovlK.any (Nat.beq n) with
        | true =>
          rw [hov] at h
          obtain ⟨h1, h2⟩ := ovl_sound (by cases hz : ovlK with | nil => rw [hz] at hov; cases hov | cons _ _ => rfl) h hi (vs := args.toList.map a.eval ++ vs) (by simp [hl]) (fun i g' v' hg' hv' => by
            by_cases hlt : i < args.toList.length
            · rw [List.getElem?_append_left (by simpa using hlt)] at hg' hv'
              rw [List.getElem?_map] at hg' hv'
              obtain ⟨x, hx, rfl⟩ := Option.map_eq_some_iff.1 hg'
              rw [hx] at hv'
              obtain rfl := Option.some.inj hv'
              exact hi.ev x
            · rw [List.getElem?_append_right (by simp at hlt ⊢; omega)] at hg' hv'
              simp only [List.length_map] at hg' hv'
              exact hcap _ g' v' hg' hv')
          refine Goes.wp (R := After F k a) ⟨.bool false, w, .inl ?_, C, _, _, h1, hi, .bool _⟩ hk
          obtain ⟨dst, op, ty, pos, aft, gd⟩ := o
          simp only at hop; subst hop
          simp only [execOp]
          rw [Sem.run_bind, resolve_fn hv, Result.andThen_ok]
          simp only [invoke]
          have e1 : args.map a.eval ++ (⟨vs⟩ : Array Value) = ⟨args.toList.map a.eval ++ vs⟩ := by apply Array.toList_inj.1; simp
          rw [e1]; exact h2
        | false =>
        rw [hov] at h
        simp only [cond_false] at h
        rw [fS_eq] at h
        obtain ⟨hb, hcall⟩ := call_sound h hi (vs := args.toList.map a.eval ++ vs) (by simp [hl]) (fun i g' v' hg' hv' => by
          by_cases hlt : i < args.toList.length
          · rw [List.getElem?_append_left (by simpa using hlt)] at hg' hv'
            rw [List.getElem?_map] at hg' hv'
            obtain ⟨x, hx, rfl⟩ := Option.map_eq_some_iff.1 hg'
            rw [hx] at hv'
            obtain rfl := Option.some.inj hv'
            exact hi.ev x
          · rw [List.getElem?_append_right (by simp at hlt ⊢; omega)] at hg' hv'
            simp only [List.length_map] at hg' hv'
            exact hcap _ g' v' hg' hv')
        unfold Oper.wp
        have e0 : (execOp a.eval o).run P w = .ok (.enter n (⟨args.toList.map a.eval ++ vs⟩)) w := by
          obtain ⟨dst, op, ty, pos, aft, gd⟩ := o
          simp only at hop; subst hop
          simp only [execOp]
          rw [Sem.run_bind, resolve_fn hv, Result.andThen_ok]
          simp only [invoke]
          rw [run_callFunc hb]
          congr 2
          apply Array.toList_inj.1; simp
        rw [e0]
        simp only [Oper.upon]
        refine hcall.mono fun e w' ⟨v, he, hA⟩ => ?_
        subst he
        exact hk v w' hA
    · rename_i n gs0 hf
      rw [fS_eq] at h
      have hr := hi.ev f
      rw [hf] at hr
      generalize hv : a.eval f = v at hr
      cases hr with
      | meth _ _ vs hl hcap =>
        obtain ⟨hb, hcall⟩ := call_sound h hi (vs := vs ++ args.toList.map a.eval) (by simp [hl]) (fun i g' v' hg' hv' => by
          by_cases hlt : i < gs0.length
          · rw [List.getElem?_append_left hlt] at hg'
            rw [List.getElem?_append_left (by rw [hl]; exact hlt)] at hv'
            exact hcap _ g' v' hg' hv'
          · rw [List.getElem?_append_right (by omega)] at hg'
            rw [List.getElem?_append_right (by rw [hl]; omega), hl] at hv'
            rw [List.getElem?_map] at hg' hv'
            obtain ⟨x, hx, rfl⟩ := Option.map_eq_some_iff.1 hg'
            rw [hx] at hv'
            obtain rfl := Option.some.inj hv'
            exact hi.ev x)
        unfold Oper.wp
        have e0 : (execOp a.eval o).run P w = .ok (.enter n (⟨vs ++ args.toList.map a.eval⟩)) w := by
          obtain ⟨dst, op, ty, pos, aft, gd⟩ := o
          simp only at hop; subst hop
          simp only [execOp]
          rw [Sem.run_bind, resolve_meth hv, Result.andThen_ok]
          simp only [invoke]
          rw [run_callFunc hb]
          congr 2
          apply Array.toList_inj.1; simp
        rw [e0]
        simp only [Oper.upon]
        refine hcall.mono fun e w' ⟨v, he, hA⟩ => ?_
        subst he
        exact hk v w' hA
    · exact h.elim
  · rename_i args ats hop
    split at h
    · rename_i s x tS tX heq ht0 ht1
      obtain ⟨X, Y, hX, rfl, rfl⟩ : ∃ X Y, args.toList = [X, Y] ∧ st.ev X = s ∧ st.ev Y = x := by
        match hq : args.toList, heq with
        | [X, Y], heq => simp at heq; exact ⟨X, Y, rfl, heq.1, heq.2⟩
      have happ : ∃ z w', (Builtin.append_ ats o.type #[a.eval X, a.eval Y]).run P w = .ok z w' ∧ After F k a z w' := by
        cases hI : isIntT P tX with
        | true => rw [hI] at h; exact appM_sound h hI hi (hi.ev X) (hi.ev Y) ht0 ht1
        | false => rw [hI] at h; exact app_sound h hi (hi.ev X) (hi.ev Y) (argTypes := ats) (ty := o.type) ht0 ht1
      obtain ⟨z, w', h1, h2⟩ := happ
      refine Goes.wp (R := After F k a) ⟨z, w', .inl ?_, h2⟩ hk
      obtain ⟨dst, op, ty, pos, aft, gd⟩ := o
      simp only at hop; subst hop
      have e1 : args.map a.eval = #[a.eval X, a.eval Y] := by apply Array.toList_inj.1; simp [hX]
      simp only [execOp, resolve, Sem.run_bind, Sem.run_pure, Result.andThen_ok, invoke, builtin, e1]
      simp only at h1
      rw [h1]; rfl
    · exact h.elim
  · rename_i t len parts hop
    cases hb : bldB o with
    | true =>
      rw [hb] at h
      obtain ⟨z, w', h1, h2⟩ := bld_sound h hi
      refine Goes.wp (R := After F k a) ⟨z, w', .inl ?_, h2⟩ hk
      obtain ⟨dst, op, ty, pos, aft, gd⟩ := o
      simp only at hop; subst hop
      simp only [execOp]; exact run_bind_ok h1
    | false =>
      rw [hb] at h
      exact (uop_sound (by rw [hop]; exact h) hi).wp hk
  · rename_i t x hop
    cases hb : givB o with
    | true =>
      rw [hb] at h
      refine Goes.wp (R := After F k a) ⟨_, _, .inl ?_, giv_sound (t := t) h hi⟩ hk
      obtain ⟨dst, op, ty, pos, aft, gd⟩ := o
      simp only at hop; subst hop
      simp [execOp, Instr.box, newVar, newRow]
    | false =>
      rw [hb] at h
      exact (fop_sound (by rw [hop]; exact h) hi).wp hk
  · exact (fop_sound h hi).wp hk

noncomputable def dstAt (l : List Oper) : Nat → Option Tmp := List.rec (motive := fun _ => Nat → Option Tmp) (fun _ => none) (fun o _ ih n => Nat.rec (motive := fun _ => Option Tmp) o.dst (fun m _ => ih m) n) l
theorem dstAt_list : ∀ (l : List Oper) (j : Nat), dstAt l j = (l[j]?).bind (·.dst)
  | [], j => by show none = _; simp
  | o :: r, 0 => by show o.dst = _; simp
  | o :: r, n + 1 => by show dstAt r n = _; simp [dstAt_list r n]
theorem dstAt_eq (ops : Array Oper) (j : Nat) : dstAt ops.toList j = (ops[j]?).bind (·.dst) := by rw [dstAt_list]; simp

/-- Operations that leave variables and rows as they are. -/
def stills : Op → Bool
  | .alloc _ | .box .. | .store .. | .makeSlice .. | .convert .. | .call { callee := .builtin .append, .. } | .call { callee := .builtin .unsafeString, .. } | .call { callee := .builtin .clear, .. } | .call { callee := .builtin .delete, .. } | .call { callee := .builtin .copy, .. } | .makeMap .. | .mapUpdate .. | .insert .. => false
  | .buildSlice _ len _ => !(bldK.any fun p => Nat.beq p.2 len)
  | _ => true
/-- Operations one behind the other. A test by which an operation is guarded is told in each branch. -/
def aopsF (P : Program) (ops : Array Oper) (o : Oper) (ih : St → (St → Prop) → Prop) (st : St) (K : St → Prop) : Prop :=
    match o.guard with
    | none => cop P (o.dst.getD 0) o st fun g st' => st'.next (stills o.op) o.dst g fun st' => ih st' K
    | some (j, want) => match dstAt ops.toList j with
      | none => False
      | some t => match st.slots.getD t .junk with
        | .bool b => bif b then (bif want then st.next true (some t) (.bool true) fun st => cop P (o.dst.getD 0) o st fun g st' => st'.next (stills o.op) o.dst g fun st' => ih st' K else (st.put (some t) (.bool true)).next true o.dst .und fun st' => ih st' K)
            else (bif want then (st.put (some t) (.bool false)).next true o.dst .und fun st' => ih st' K else st.next true (some t) (.bool false) fun st => cop P (o.dst.getD 0) o st fun g st' => st'.next (stills o.op) o.dst g fun st' => ih st' K)
        | .und => st.next true o.dst .und fun st' => ih st' K
        | _ => False
/-- (By the recursor itself: what Lean's front works out, and what the kernel does, then is the same term.) -/
def aops (P : Program) (ops : Array Oper) (l : List Oper) : St → (St → Prop) → Prop :=
  List.rec (motive := fun _ => St → (St → Prop) → Prop) (fun st K => st.force K) (fun o _ ih => aopsF P ops o ih) l

theorem Inv.slot {C : Cx} {F : Fd} {st : St} {a : Act} {w : World} (h : Inv C F st a w) {t : Nat} {b : Bool} (hs : st.slots.getD t .junk = .bool b) : st.slots[t]? = some (.bool b) ∧ a.tmps[t]? = some (.bool b) := by
  rw [List.getD_eq_getElem?_getD] at hs
  cases hx : st.slots[t]? with
  | none => rw [hx] at hs; cases hs
  | some g =>
    rw [hx] at hs
    obtain rfl : g = .bool b := hs
    have hlt : t < a.tmps.size := by rw [h.sz]; exact (List.getElem?_eq_some_iff.1 hx).1
    have hv : a.tmps[t]? = some a.tmps[t] := Array.getElem?_eq_getElem hlt
    refine ⟨rfl, ?_⟩
    rw [hv, (h.slots t _ _ hx hv).bool_inv]

theorem Inv.undAt {C : Cx} {F : Fd} {st : St} {a : Act} {w : World} (h : Inv C F st a w) {t : Nat} (hs : st.slots.getD t .junk = .und) : a.tmps[t]? = some undef := by
  rw [List.getD_eq_getElem?_getD] at hs
  cases hx : st.slots[t]? with
  | none => rw [hx] at hs; cases hs
  | some g =>
    rw [hx] at hs
    simp at hs
    subst hs
    have hlt : t < a.tmps.size := by rw [h.sz]; exact (List.getElem?_eq_some_iff.1 hx).1
    have hr := h.slots t _ a.tmps[t] hx (Array.getElem?_eq_getElem hlt)
    rw [Array.getElem?_eq_getElem hlt]
    generalize a.tmps[t] = v at hr
    cases hr
    rfl
theorem Inv.same {C : Cx} {F : Fd} {st : St} {a : Act} {w : World} (h : Inv C F st a w) {t : Nat} {b : Bool} (hs : st.slots.getD t .junk = .bool b) : Inv C F (st.put (some t) (.bool b)) a w := by
  obtain ⟨h1, _⟩ := h.slot hs
  have e : st.put (some t) (.bool b) = st := by
    unfold St.put
    have : st.slots.set t (.bool b) = st.slots := by
      apply List.ext_getElem?
      intro i
      by_cases e : t = i
      · subst e; rw [List.getElem?_set_self (List.getElem?_eq_some_iff.1 h1).1, h1]
      · rw [List.getElem?_set_ne e]
    simp only [this]
  rw [e]; exact h

theorem aops_sound {P : Program} {ops : Array Oper} {F : Fd} {K : St → Prop} {Q : Act → World → Prop} (hQ : ∀ C st a w, K st → Inv C F st a w → Q a w) :
    ∀ (l : List Oper) (st : St) (C : Cx) (a : Act) (w : World), aops P ops l st K → Inv C F st a w → wpL P ops F.dfs Q l a w
  | [], st, C, a, w, h, hi => hQ C st a w (by change st.force K at h; rwa [St.force_eq] at h) hi
  | o :: rest, st, C, a, w, h, hi => by
    have ih := aops_sound hQ (P := P) (ops := ops) rest
    have run : ∀ st : St, Inv C F st a w → cop P (o.dst.getD 0) o st (fun g st' => aops P ops rest (st'.put o.dst g) K) → o.wp P a w (fun a w => a.defers = F.dfs ∧ wpL P ops F.dfs Q rest a w) (fun _ _ _ => False) := fun st hi h =>
      cop_sound h hi fun v w' ⟨C', g, st', h1, h2, h3⟩ => ⟨(h2.put o.dst h3).nd, ih (st'.put o.dst g) C' (a.put o.dst v) w' h1 (h2.put o.dst h3)⟩
    change aopsF P ops o (aops P ops rest) st K at h
    unfold aopsF at h
    simp only [St.next_eq] at h
    unfold wpL
    split at h
    · rename_i hg
      rw [if_pos (by simp [Region.wanted, hg])]
      exact (run st hi h)
    · rename_i j want hg
      split at h
      · exact h.elim
      · rename_i t ht
        rw [dstAt_eq] at ht
        split at h
        · rename_i b hs
          have hy : yielded ops a.tmps j = some b := by
            unfold yielded
            rw [ht]; simp only [Option.bind_some, (hi.slot hs).2]
          cases b <;> cases want <;> simp only [cond_true, cond_false] at h
          · rw [if_pos (by simp [Region.wanted, hg, hy])]
            exact (run _ (hi.same hs) h)
          · rw [if_neg (by simp [Region.wanted, hg, hy])]
            exact ih _ C _ w h ((hi.same hs).put o.dst .und)
          · rw [if_neg (by simp [Region.wanted, hg, hy])]
            exact ih _ C _ w h ((hi.same hs).put o.dst .und)
          · rw [if_pos (by simp [Region.wanted, hg, hy])]
            exact (run _ (hi.same hs) h)
        · rename_i hs
          have hy : yielded ops a.tmps j = none := by
            unfold yielded
            rw [ht]
            simp only [Option.bind_some]
            rw [hi.undAt hs]; rfl
          rw [if_neg (by simp [Region.wanted, hg, hy])]
          exact ih _ C _ w h (hi.put o.dst .und)
        · exact h.elim

/-- From the state st the code comes to K, on the machine. -/
def HasD (P : Program) (c : Code) (st : St) (K : Exit → St → Prop) : Prop :=
  ∀ (C : Cx) (F : Fd) (a : Act) (w : World), Inv C F st a w → wpB P c (fun e a' w' => ∃ C' st', K e st' ∧ Inv C' F st' a' w') a w

theorem HasD.mono {P : Program} {c : Code} {st : St} {K K' : Exit → St → Prop} (h : HasD P c st K) (hk : ∀ e st, K e st → K' e st) : HasD P c st K' :=
  fun C F a w hi => wpB_mono (h C F a w hi) fun e a' w' ⟨C', st', h1, h2⟩ => ⟨C', st', hk e st' h1, h2⟩
theorem HasD.seq {P : Program} {x y : Code} {st : St} {K : Exit → St → Prop} (h : HasD P x st fun e st' => match e with | .normal => HasD P y st' K | e => K e st') : HasD P (.seq x y) st K :=
  fun C F a w hi => wpB_seq (wpB_mono (h C F a w hi) fun e a' w' ⟨C', st', h1, h2⟩ => by
    cases e with
    | normal => exact h1 C' F a' w' h2
    | _ => exact ⟨C', st', h1, h2⟩)
theorem HasD.block {P : Program} {id : Nat} {c : Code} {st : St} {K : Exit → St → Prop} (h : HasD P c st fun e st' => match e with | .exit id' => if id' = id then K .normal st' else K (.exit id') st' | e => K e st') : HasD P (.block id c) st K :=
  fun C F a w hi => wpB_block (wpB_mono (h C F a w hi) fun e a' w' ⟨C', st', h1, h2⟩ => by
    cases e with
    | exit id' =>
      simp only [Exit.inBlock]
      simp only at h1
      split
      · rename_i e; rw [if_pos e] at h1; exact ⟨C', st', h1, h2⟩
      · rename_i e; rw [if_neg e] at h1; exact ⟨C', st', h1, h2⟩
    | _ => exact ⟨C', st', h1, h2⟩)
theorem HasD.cond {P : Program} {c : Operand} {x y : Code} {st : St} {K : Exit → St → Prop} {t : Bool} (hc : st.ev c = .bool t) (h1 : t = true → HasD P x st K) (h2 : t = false → HasD P y st K) : HasD P (.cond c x y) st K :=
  fun C F a w hi => by
    have hr := hi.ev c
    rw [hc] at hr
    exact wpB_cond_split hr.bool_inv (fun e => h1 e C F a w hi) (fun e => h2 e C F a w hi)
theorem HasD.region {P : Program} {id : Nat} {ops : Array Oper} {st : St} {K : Exit → St → Prop} (h : aops P ops ops.toList st (K .normal)) : HasD P (.region id ops false) st K :=
  fun C F a w hi => wpB_region hi.nd (aops_sound (fun C st a w h1 h2 => ⟨C, st, h1, h2⟩) ops.toList st C a w h hi)

/-- Slots that are looked at no more. -/
def keepAt (L : List Nat) : Nat → List G → List G
  | _, [] => []
  | i, g :: gs => (bif L.contains i then g else .junk) :: keepAt L (i + 1) gs
def St.keep (st : St) (L : List Nat) : St := { st with slots := keepAt L 0 st.slots }
theorem keepAt_len (L : List Nat) : ∀ (gs : List G) (i : Nat), (keepAt L i gs).length = gs.length
  | [], _ => rfl
  | g :: gs, i => by simp [keepAt, keepAt_len L gs (i + 1)]
theorem keepAt_get (L : List Nat) : ∀ (gs : List G) (i j : Nat) (g : G), (keepAt L i gs)[j]? = some g → g = .junk ∨ gs[j]? = some g
  | [], i, j, g, h => by simp [keepAt] at h
  | x :: gs, i, 0, g, h => by
    simp only [keepAt, List.getElem?_cons_zero, Option.some.injEq] at h
    cases hc : L.contains i with
    | true => rw [hc] at h; exact .inr (by simpa using h)
    | false => rw [hc] at h; exact .inl h.symm
  | x :: gs, i, j + 1, g, h => by
    simp only [keepAt, List.getElem?_cons_succ] at h
    simpa using keepAt_get L gs (i + 1) j g h
theorem Inv.keep {C : Cx} {F : Fd} {st : St} {a : Act} {w : World} (h : Inv C F st a w) (L : List Nat) : Inv C F (st.keep L) a w :=
  ⟨h.nd, by simp [St.keep, keepAt_len, h.sz], fun i g v hg hv => by
    rcases keepAt_get L _ _ _ _ hg with rfl | hg
    · exact .junk _
    · exact h.slots i g v hg hv, h.mem, h.fr, h.ex0, h.exn, h.t0, h.tb, h.tr, fun b B hb => ⟨(h.fb b B hb).1, by show (keepAt L 0 st.slots).length + 8 ≤ b; rw [keepAt_len]; exact (h.fb b B hb).2⟩⟩

/-- A loop: J tells the states at its head, with a number that goes down; slots beside L are looked at no more. -/
theorem HasD.loop {P : Program} {c : Code} {st : St} {K : Exit → St → Prop} (L : List Nat) (J : Nat → St → Prop) (n : Nat) (h0 : J n (st.keep L))
    (h : ∀ n st, J n st → HasD P c st fun e st' => match e with | .normal => ∃ m, m < n ∧ J m (st'.keep L) | e => K e st') : HasD P (.loop c) st K := by
  intro C F a w hi
  have key : ∀ n C a w st, J n st → Inv C F st a w → (roundsB P c (fun e a' w' => ∃ C' st', K e st' ∧ Inv C' F st' a' w') (n + 1) a w) := by
    intro n
    induction n using Nat.strongRecOn with
    | _ n ih =>
      intro C a w st hJ hi
      rw [roundsB_succ]
      refine wpB_mono (h n st hJ C F a w hi) fun e a' w' ⟨C', st', h1, h2⟩ => ?_
      cases e with
      | normal =>
        obtain ⟨m, hm, hJ'⟩ := h1
        have := ih m hm C' a' w' _ hJ' (h2.keep L)
        show roundsB P c _ n a' w'
        have up : ∀ (m n : Nat) (a : Act) (w : World), m ≤ n → roundsB P c (fun e a' w' => ∃ C' st', K e st' ∧ Inv C' F st' a' w') m a w → roundsB P c (fun e a' w' => ∃ C' st', K e st' ∧ Inv C' F st' a' w') n a w := by
          intro m
          induction m with
          | zero => intro n a w _ h; exact h.elim
          | succ m ihm =>
            intro n a w hle h
            obtain ⟨n, rfl⟩ : ∃ q, n = q + 1 := ⟨n - 1, by omega⟩
            refine wpB_mono h fun e a w he => ?_
            cases e with
            | normal => exact ihm n a w (by omega) he
            | _ => exact he
        exact up (m + 1) n a' w' (by omega) this
      | _ => exact ⟨C', st', h1, h2⟩
  exact wpB_loop_rounds (n + 1) (key n C a w _ h0 (hi.keep L))

/-- The same, as a thing that the walk does not take apart. -/
structure Has (P : Program) (c : Code) (st : St) (K : Exit → St → Prop) : Prop where
  out : HasD P c st K
theorem Has.mono {P : Program} {c : Code} {st : St} {K K' : Exit → St → Prop} (h : Has P c st K) (hk : ∀ e st, K e st → K' e st) : Has P c st K' := ⟨h.out.mono hk⟩
theorem Has.loop {P : Program} {c : Code} {st : St} {K : Exit → St → Prop} (L : List Nat) (J : Nat → St → Prop) (n : Nat) (h0 : J n (st.keep L))
    (h : ∀ n st, J n st → Has P c st fun e st' => match e with | .normal => ∃ m, m < n ∧ J m (st'.keep L) | e => K e st') : Has P (.loop c) st K := ⟨HasD.loop L J n h0 fun n st hJ => (h n st hJ).out⟩
/-- Own things given up: variable b, or (from 1000 on) row b - 1000. -/
def St.drop (s : St) (b : Nat) : St := bif Nat.blt b 1000 then bif Nat.blt b (s.slots.length + 8) then s.killB b else s else s.killR (b - 1000)
/-- The state at a loop's head: slots beside L are looked at no more, variables of D are forgotten. -/
def St.at (st : St) (L D : List Nat) : St := D.foldl (fun s b => s.drop b) (st.keep L)
theorem Inv.at {C : Cx} {F : Fd} {st : St} {a : Act} {w : World} (h : Inv C F st a w) (L D : List Nat) : ∃ C', Inv C' F (st.at L D) a w := by
  unfold St.at
  have key : ∀ (D : List Nat) (st : St) (C : Cx), Inv C F st a w → ∃ C', Inv C' F (D.foldl (fun s b => s.drop b) st) a w := by
    intro D
    induction D with
    | nil => intro st C h; exact ⟨C, h⟩
    | cons b D ih =>
      intro st C h
      rw [List.foldl_cons]
      unfold St.drop
      cases hr : Nat.blt b 1000 with
      | false => exact ih _ _ (h.killR (b - 1000))
      | true =>
        cases hb : Nat.blt b (st.slots.length + 8) with
        | true => exact ih _ _ (h.killB b (Nat.le_of_ble_eq_true hb))
        | false => exact ih _ _ h
  exact key D _ C (h.keep L)
theorem Has.loopD {P : Program} {c : Code} {st : St} {K : Exit → St → Prop} (L D : List Nat) (J : Nat → St → Prop) (n : Nat) (h0 : J n (st.at L D))
    (h : ∀ n st, J n st → Has P c st fun e st' => match e with | .normal => ∃ m, m < n ∧ J m (st'.at L D) | e => K e st') : Has P (.loop c) st K := by
  refine ⟨fun C F a w hi => ?_⟩
  have key : ∀ n C a w st, J n st → Inv C F st a w → (roundsB P c (fun e a' w' => ∃ C' st', K e st' ∧ Inv C' F st' a' w') (n + 1) a w) := by
    intro n
    induction n using Nat.strongRecOn with
    | _ n ih =>
      intro C a w st hJ hi
      rw [roundsB_succ]
      refine wpB_mono ((h n st hJ).out C F a w hi) fun e a' w' ⟨C', st', h1, h2⟩ => ?_
      cases e with
      | normal =>
        obtain ⟨m, hm, hJ'⟩ := h1
        obtain ⟨C2, h2'⟩ := h2.at L D
        have := ih m hm C2 a' w' _ hJ' h2'
        show roundsB P c _ n a' w'
        have up : ∀ (m n : Nat) (a : Act) (w : World), m ≤ n → roundsB P c (fun e a' w' => ∃ C' st', K e st' ∧ Inv C' F st' a' w') m a w → roundsB P c (fun e a' w' => ∃ C' st', K e st' ∧ Inv C' F st' a' w') n a w := by
          intro m
          induction m with
          | zero => intro n a w _ h; exact h.elim
          | succ m ihm =>
            intro n a w hle h
            obtain ⟨n, rfl⟩ : ∃ q, n = q + 1 := ⟨n - 1, by omega⟩
            refine wpB_mono h fun e a w he => ?_
            cases e with
            | normal => exact ihm n a w (by omega) he
            | _ => exact he
        exact up (m + 1) n a' w' (by omega) this
      | _ => exact ⟨C', st', h1, h2⟩
  obtain ⟨C2, h2⟩ := hi.at L D
  exact wpB_loop_rounds (n + 1) (key n C2 a w _ h0 h2)
theorem cond_f {b : Bool} {A : Prop} (h : b = false) (hA : A) : cond b False A := by rw [h]; exact hA
theorem cond_t {b : Bool} {A : Prop} (h : b = true) (hA : A) : cond b A False := by rw [h]; exact hA
theorem cond_i {t : Bool} {A B : Prop} (h1 : t = true → A) (h2 : t = false → B) : cond t A B := by cases t; exact h2 rfl; exact h1 rfl
end Go.Proofs.YtijohhdgecadnaaDoor.Av
namespace Go.Proofs.YtijohhdgecadnaaDoor.Av
open Go Go.RowKit
set_option linter.unusedVariables false
set_option linter.unusedSimpArgs false

/-- What an operation does, and where it looks. -/
structure Tr where
  dst : Option Nat
  g : G
  wr : Option (Nat × Nat × List G)
  nb : Option (Nat × List G)
  look : List Nat
  rb : Option (Nat × Nat × Nat)
  rr : Bool

def Tr.app (t : Tr) (st : St) : St :=
  { slots := match t.dst with | some d => st.slots.set d t.g | none => st.slots
    boxes := match t.nb with
      | some (b, cs) => st.boxes.set b (some cs)
      | none => match t.wr with
        | some (b, off, cs) => st.boxes.modify b (Option.map fun old => blit old off cs)
        | none => st.boxes
    rows := st.rows }

def disj (o n o' n' : Nat) : Bool := Nat.ble (o + n) o' || Nat.ble (o' + n') o
/-- What u writes, t neither looks at nor writes. -/
def Tr.away (t u : Tr) : Bool :=
  (match u.dst with
   | some d => !t.look.contains d && t.dst != some d
   | none => true) &&
  (match u.nb with
   | some (b, _) => (match t.rb with | some (b', _, _) => b' != b | none => true) && (match t.wr with | some (b', _, _) => b' != b | none => true) && (match t.nb with | some (b', _) => b' != b | none => true)
   | none => match u.wr with
     | some (b, o, cs) => (match t.rb with | some (b', o', n') => b' != b || disj o cs.length o' n' | none => true) && (match t.wr with | some (b', o', cs') => b' != b || disj o cs.length o' cs'.length | none => true) &&
         (match t.nb with | some (b', _) => b' != b | none => true)
     | none => true)
def Tr.apart (t u : Tr) : Bool := t.away u && u.away t

/-- The cells that t reads, the variable that it writes to. -/
def rng (st : St) (b o n : Nat) : Option (List G × Nat) := (st.boxes.getD b none).map fun cs => ((cs.drop o).take n, cs.length)
structure Tr.Same (t : Tr) (s s' : St) : Prop where
  rows : t.rr = true → s.rows = s'.rows
  look : ∀ d ∈ t.look, s.slots.getD d .junk = s'.slots.getD d .junk
  rb : ∀ b o n, t.rb = some (b, o, n) → rng s b o n = rng s' b o n
  wr : ∀ b o cs, t.wr = some (b, o, cs) → (s.boxes.getD b none).map List.length = (s'.boxes.getD b none).map List.length
  nb : ∀ b cs, t.nb = some (b, cs) → (s.boxes.getD b none).isNone = (s'.boxes.getD b none).isNone
  lenS : s.slots.length = s'.slots.length
  lenB : (t.wr.isSome || t.nb.isSome || t.rb.isSome) = true → s.boxes.length = s'.boxes.length

theorem Tr.Same.refl (t : Tr) (s : St) : t.Same s s := ⟨fun _ => rfl, fun _ _ => rfl, fun _ _ _ _ => rfl, fun _ _ _ _ => rfl, fun _ _ _ => rfl, rfl, fun _ => rfl⟩
theorem Tr.Same.trans {t : Tr} {a b c : St} (h : t.Same a b) (k : t.Same b c) : t.Same a c :=
  ⟨fun e => (h.rows e).trans (k.rows e), fun d hd => (h.look d hd).trans (k.look d hd), fun b o n e => (h.rb b o n e).trans (k.rb b o n e), fun b o cs e => (h.wr b o cs e).trans (k.wr b o cs e), fun b cs e => (h.nb b cs e).trans (k.nb b cs e), h.lenS.trans k.lenS, fun e => (h.lenB e).trans (k.lenB e)⟩
theorem Tr.Same.symm {t : Tr} {a b : St} (h : t.Same a b) : t.Same b a :=
  ⟨fun e => (h.rows e).symm, fun d hd => (h.look d hd).symm, fun b o n e => (h.rb b o n e).symm, fun b o cs e => (h.wr b o cs e).symm, fun b cs e => (h.nb b cs e).symm, h.lenS.symm, fun e => (h.lenB e).symm⟩

theorem getD_set {α : Type} (xs : List α) (i j : Nat) (x d : α) : (xs.set i x).getD j d = if i = j ∧ i < xs.length then x else xs.getD j d := by
  rw [List.getD_eq_getElem?_getD, List.getD_eq_getElem?_getD, List.getElem?_set]
  by_cases h : i = j
  · subst h
    by_cases h2 : i < xs.length
    · simp [h2]
    · simp [h2]
  · simp [h]
theorem getD_modify {α : Type} (xs : List (Option α)) (i j : Nat) (f : Option α → Option α) (hf : f none = none) : (xs.modify i f).getD j none = if i = j then f (xs.getD j none) else xs.getD j none := by
  rw [List.getD_eq_getElem?_getD, List.getD_eq_getElem?_getD, List.getElem?_modify]
  by_cases h : i = j
  · subst h
    simp only [if_true]
    cases hx : xs[i]? <;> simp [hf]
  · simp only [h, if_false]
    cases xs[j]? <;> simp

theorem app_boxD (u : Tr) (st : St) (b : Nat) : ((u.app st).boxes.getD b none) = (match u.nb with
    | some (b', cs) => if b' = b ∧ b' < st.boxes.length then some cs else st.boxes.getD b none
    | none => match u.wr with
      | some (b', off, cs) => if b' = b then (st.boxes.getD b none).map (fun old => blit old off cs) else st.boxes.getD b none
      | none => st.boxes.getD b none) := by
  unfold Tr.app
  cases u.nb with
  | some p => obtain ⟨b', cs⟩ := p; exact getD_set _ _ _ _ _
  | none =>
    cases u.wr with
    | some p => obtain ⟨b', off, cs⟩ := p; exact getD_modify _ _ _ _ rfl
    | none => rfl
theorem app_slotD (u : Tr) (st : St) (d : Nat) : (u.app st).slots.getD d .junk = (match u.dst with | some e => if e = d ∧ e < st.slots.length then u.g else st.slots.getD d .junk | none => st.slots.getD d .junk) := by
  unfold Tr.app
  cases u.dst with
  | some e => exact getD_set _ _ _ _ _
  | none => rfl
theorem app_lenS (u : Tr) (st : St) : (u.app st).slots.length = st.slots.length := by unfold Tr.app; cases u.dst <;> simp
theorem app_lenB (u : Tr) (st : St) : (u.app st).boxes.length = st.boxes.length := by
  unfold Tr.app
  cases u.nb with
  | some p => obtain ⟨b', cs⟩ := p; simp
  | none => cases u.wr with
    | some p => obtain ⟨b', off, cs⟩ := p; simp
    | none => rfl

theorem blit_part {α : Type} (us xs : List α) (p o n : Nat) (h : disj p us.length o n = true) : ((blit xs p us).drop o).take n = (xs.drop o).take n := by
  induction us generalizing xs p with
  | nil => rw [blit_nil]
  | cons u us ih =>
    rw [blit_cons]
    simp only [disj, Bool.or_eq_true, List.length_cons] at h
    have key : ((xs.set p u).drop o).take n = (xs.drop o).take n := by
      apply List.ext_getElem?
      intro i
      rw [List.getElem?_take, List.getElem?_take]
      split
      · rw [List.getElem?_drop, List.getElem?_drop, List.getElem?_set_ne]
        rcases h with h | h <;> have h := Nat.le_of_ble_eq_true h <;> omega
      · rfl
    rw [ih, key]
    simp only [disj, Bool.or_eq_true]
    rcases h with h | h
    · have h := Nat.le_of_ble_eq_true h
      exact .inl (Nat.ble_eq_true_of_le (by omega))
    · have h := Nat.le_of_ble_eq_true h
      exact .inr (Nat.ble_eq_true_of_le (by omega))
theorem blit_like {α : Type} (us xs ys : List α) (p o n : Nat) (h : (xs.drop o).take n = (ys.drop o).take n) (hl : xs.length = ys.length) : ((blit xs p us).drop o).take n = ((blit ys p us).drop o).take n := by
  induction us generalizing xs ys p with
  | nil => rw [blit_nil, blit_nil]; exact h
  | cons u us ih =>
    rw [blit_cons, blit_cons]
    refine ih _ _ _ ?_ (by simp [hl])
    apply List.ext_getElem?
    intro i
    have hi := congrArg (fun l => l[i]?) h
    simp only [List.getElem?_take, List.getElem?_drop] at hi ⊢
    split
    · rename_i hlt
      rw [if_pos hlt, if_pos hlt] at hi
      rw [List.getElem?_set, List.getElem?_set, hl, hi]
    · rfl
/-- What u did, it does in like states alike. -/
theorem Tr.Same.app {t : Tr} {s s' : St} (h : t.Same s s') (u : Tr) : t.Same (u.app s) (u.app s') := by
  have bx : ∀ b, (match u.nb with | some (b', cs) => (b' = b) | none => match u.wr with | some (b', off, cs) => b' = b | none => False) ∨ ((u.app s).boxes.getD b none = s.boxes.getD b none ∧ (u.app s').boxes.getD b none = s'.boxes.getD b none) := fun b => by
    rw [app_boxD, app_boxD]
    cases hn : u.nb with
    | some p =>
      obtain ⟨b', cs⟩ := p
      by_cases e : b' = b
      · exact .inl e
      · exact .inr (by simp [e])
    | none =>
      cases hw : u.wr with
      | some p =>
        obtain ⟨b', off, cs⟩ := p
        by_cases e : b' = b
        · exact .inl e
        · exact .inr (by simp [e])
      | none => exact .inr ⟨rfl, rfl⟩
  refine ⟨h.rows, fun d hd => ?_, fun b o n e => ?_, fun b o cs e => ?_, fun b cs e => ?_, by rw [app_lenS, app_lenS, h.lenS], fun e => by rw [app_lenB, app_lenB, h.lenB e]⟩
  · rw [app_slotD, app_slotD]
    cases u.dst with
    | some e => simp only [h.lenS, h.look d hd]
    | none => exact h.look d hd
  · have hb := h.rb b o n e
    unfold rng at hb ⊢
    rw [app_boxD, app_boxD]
    cases hn : u.nb with
    | some p =>
      obtain ⟨b', cs⟩ := p
      simp only [h.lenB (by simp [e])]
      split
      · rfl
      · exact hb
    | none =>
      cases hw : u.wr with
      | some p =>
        obtain ⟨b', off, cs⟩ := p
        simp only
        split
        · cases h1 : s.boxes.getD b none <;> cases h2 : s'.boxes.getD b none <;> rw [h1, h2] at hb <;> simp at hb
          rename_i x y
          simp only [Option.map_some]
          obtain ⟨hb1, hb2⟩ := hb
          rw [blit_length, blit_length, hb2, blit_like cs x y off o n hb1 hb2]
        · exact hb
      | none => exact hb
  · have hb := h.wr b o cs e
    rw [app_boxD, app_boxD]
    cases hn : u.nb with
    | some p =>
      obtain ⟨b', cs⟩ := p
      simp only [h.lenB (by simp [e])]
      split
      · rfl
      · exact hb
    | none =>
      cases hw : u.wr with
      | some p =>
        obtain ⟨b', off, cs⟩ := p
        simp only
        split
        · cases h1 : s.boxes.getD b none <;> cases h2 : s'.boxes.getD b none <;> rw [h1, h2] at hb <;> simp at hb
          simp [blit_length, hb]
        · exact hb
      | none => exact hb
  · have hb := h.nb b cs e
    rw [app_boxD, app_boxD]
    cases hn : u.nb with
    | some p =>
      obtain ⟨b', cs⟩ := p
      simp only [h.lenB (by simp [e])]
      split
      · rfl
      · exact hb
    | none =>
      cases hw : u.wr with
      | some p =>
        obtain ⟨b', off, cs⟩ := p
        simp only
        split
        · cases h1 : s.boxes.getD b none <;> cases h2 : s'.boxes.getD b none <;> rw [h1, h2] at hb <;> simp_all
        · exact hb
      | none => exact hb

theorem Tr.away_same {t u : Tr} (h : t.away u = true) (s : St) (hnb : ∀ b cs, u.nb = some (b, cs) → True) : t.Same (u.app s) s := by
  simp only [Tr.away, Bool.and_eq_true] at h
  obtain ⟨h1, h2⟩ := h
  refine ⟨fun _ => rfl, fun d hd => ?_, fun b o n e => ?_, fun b o cs e => ?_, fun b cs e => ?_, app_lenS u s, fun _ => app_lenB u s⟩
  · rw [app_slotD]
    cases hu : u.dst with
    | none => rfl
    | some x =>
      rw [hu] at h1
      simp only [Bool.and_eq_true, Bool.not_eq_true', bne_iff_ne] at h1
      have : x ≠ d := fun e => by
        subst e
        have := h1.1
        rw [List.contains_eq_mem] at this
        simp at this
        exact this hd
      simp [this]
  · unfold rng
    rw [app_boxD]
    cases hn : u.nb with
    | some p =>
      obtain ⟨b', cs⟩ := p
      rw [hn, e] at h2
      simp only [Bool.and_eq_true, bne_iff_ne] at h2
      have : b' ≠ b := fun e => h2.1.1 e.symm
      simp [this]
    | none =>
      cases hw : u.wr with
      | some p =>
        obtain ⟨b', off, cs⟩ := p
        rw [hn, hw, e] at h2
        simp only [Bool.and_eq_true, Bool.or_eq_true, bne_iff_ne] at h2
        simp only
        split
        · rename_i eb
          subst eb
          cases s.boxes.getD b' none with
          | none => rfl
          | some old =>
            simp only [Option.map_some]
            rw [blit_length, blit_part cs old off o n (h2.1.1.resolve_left (fun h => h rfl))]
        · rfl
      | none => rfl
  · rw [app_boxD]
    cases hn : u.nb with
    | some p =>
      obtain ⟨b', cs'⟩ := p
      rw [hn, e] at h2
      simp only [Bool.and_eq_true, bne_iff_ne] at h2
      have : b' ≠ b := fun e => h2.1.2 e.symm
      simp [this]
    | none =>
      cases hw : u.wr with
      | some p =>
        obtain ⟨b', off, cs'⟩ := p
        simp only
        split
        · cases s.boxes.getD b none <;> simp [blit_length]
        · rfl
      | none => rfl
  · rw [app_boxD]
    cases hn : u.nb with
    | some p =>
      obtain ⟨b', cs'⟩ := p
      rw [hn, e] at h2
      simp only [Bool.and_eq_true, bne_iff_ne] at h2
      have : b' ≠ b := fun e => h2.2 e.symm
      simp [this]
    | none =>
      cases hw : u.wr with
      | some p =>
        obtain ⟨b', off, cs'⟩ := p
        simp only
        split
        · cases s.boxes.getD b none <;> simp
        · rfl
      | none => rfl

theorem blit_set {α : Type} (us xs : List α) (p i : Nat) (x : α) (h : i < p ∨ p + us.length ≤ i) : blit (xs.set i x) p us = (blit xs p us).set i x := by
  induction us generalizing xs p with
  | nil => rw [blit_nil, blit_nil]
  | cons u us ih =>
    simp only [List.length_cons] at h
    rw [blit_cons, blit_cons]
    rw [List.set_comm _ _ (show i ≠ p by omega), ih _ _ (by omega)]
theorem blit_comm {α : Type} (us vs xs : List α) (p q : Nat) (h : disj p us.length q vs.length = true) : blit (blit xs p us) q vs = blit (blit xs q vs) p us := by
  induction us generalizing xs p with
  | nil => rw [blit_nil, blit_nil]
  | cons u us ih =>
    simp only [disj, Bool.or_eq_true, List.length_cons] at h
    have h' : (p + us.length + 1 ≤ q) ∨ (q + vs.length ≤ p) := by
      rcases h with h | h <;> have h := Nat.le_of_ble_eq_true h <;> omega
    rw [blit_cons, blit_cons]
    rw [ih (xs.set p u) (p + 1) (by
      simp only [disj, Bool.or_eq_true]
      rcases h' with h' | h'
      · exact .inl (Nat.ble_eq_true_of_le (by omega))
      · exact .inr (Nat.ble_eq_true_of_le (by omega))), blit_set vs xs q p u (by omega)]
/-- What meet nowhere may change places. -/
theorem Tr.apart_comm {t u : Tr} (h : t.apart u = true) (s : St) : t.app (u.app s) = u.app (t.app s) := by
  simp only [Tr.apart, Tr.away, Bool.and_eq_true] at h
  obtain ⟨⟨h1, h2⟩, ⟨h3, h4⟩⟩ := h
  have es : (t.app (u.app s)).slots = (u.app (t.app s)).slots := by
    unfold Tr.app
    cases ht : t.dst with
    | none => cases u.dst <;> rfl
    | some a =>
      cases hu : u.dst with
      | none => rfl
      | some b =>
        rw [hu, ht] at h1
        simp only [Bool.and_eq_true, bne_iff_ne] at h1
        exact List.set_comm _ _ (fun e => h1.2 (by rw [e]))
  have eb : (t.app (u.app s)).boxes = (u.app (t.app s)).boxes := by
    have modset : ∀ (xs : List (Option (List G))) (b b' off : Nat) (cs us : List G), b' ≠ b → (xs.set b (some cs)).modify b' (Option.map fun old => blit old off us) = (xs.modify b' (Option.map fun old => blit old off us)).set b (some cs) := fun xs b b' off cs us hne => by
      apply List.ext_getElem?
      intro i
      simp only [List.getElem?_modify, List.getElem?_set, List.length_modify]
      by_cases e1 : b' = i <;> by_cases e2 : b = i
      · omega
      · simp [e1, e2]
      · simp [e1, e2]
      · simp [e1, e2]
    unfold Tr.app
    cases htn : t.nb with
    | some p =>
      obtain ⟨b, cs⟩ := p
      cases hun : u.nb with
      | some q =>
        obtain ⟨b', cs'⟩ := q
        rw [hun, htn] at h2
        simp only [Bool.and_eq_true, bne_iff_ne] at h2
        exact List.set_comm _ _ (fun e => h2.2 e.symm)
      | none =>
        cases huw : u.wr with
        | none => rfl
        | some q =>
          obtain ⟨b', off, cs'⟩ := q
          rw [hun, huw, htn] at h2
          simp only [Bool.and_eq_true, bne_iff_ne] at h2
          exact (modset s.boxes b b' off cs cs' (fun e => h2.2 e.symm)).symm
    | none =>
      cases htw : t.wr with
      | none => cases hun : u.nb with
        | some q => rfl
        | none => cases u.wr <;> rfl
      | some p =>
        obtain ⟨b, off, cs⟩ := p
        cases hun : u.nb with
        | some q =>
          obtain ⟨b', cs'⟩ := q
          rw [hun, htw, htn] at h2
          simp only [Bool.and_eq_true, bne_iff_ne] at h2
          exact modset s.boxes b' b off cs' cs h2.1.2
        | none =>
          cases huw : u.wr with
          | none => rfl
          | some q =>
            obtain ⟨b', off', cs'⟩ := q
            rw [hun, huw, htn, htw] at h2
            simp only [Bool.and_eq_true, Bool.or_eq_true, bne_iff_ne] at h2
            apply List.ext_getElem?
            intro i
            simp only [List.getElem?_modify]
            by_cases e1 : b = i <;> by_cases e2 : b' = i
            · subst e1; subst e2
              simp only [if_true]
              cases s.boxes[b']? with
              | none => rfl
              | some o =>
                cases o with
                | none => rfl
                | some old =>
                  simp only [Option.map_some, Functor.map]
                  rw [blit_comm cs cs' old off off']
                  have hd := h2.1.2.resolve_left (fun h => h rfl)
                  simp only [disj, Bool.or_eq_true] at hd ⊢
                  exact hd.symm
            · simp [e1, e2]
            · simp [e1, e2]
            · simp [e1, e2]
  have er : (t.app (u.app s)).rows = (u.app (t.app s)).rows := rfl
  cases h5 : t.app (u.app s)
  cases h6 : u.app (t.app s)
  rw [h5, h6] at es eb er
  simp only at es eb er
  subst es; subst eb; subst er; rfl

/-! Values that giving up row k leaves as they are. -/
def immune0 (k : Nat) : G → Bool
  | .int .. | .bool _ | .str _ | .lit _ | .sl _ | .nils | .emp | .ne | .ptr .. | .elt .. => true
  | .own k' _ _ | .eltw k' _ _ | .dat k' | .ownt k' _ _ | .datt k' _ | .mp k' _ _ | .ownf k' _ _ _ => !Nat.beq k' k
  | .nilt | .ptrt .. => true
  | .fn _ [] => true
  | _ => false
def immuneA (k : Nat) : G → Bool
  | .agg gs => gs.all (immune0 k)
  | g => immune0 k g
def immune1 (k : Nat) : G → Bool
  | .fn _ caps => caps.all (immuneA k)
  | g => immuneA k g
theorem immune0_iff {k : Nat} {x v : G} (h : immune0 k v = true) : kR0 k x = v ↔ x = v := by
  have dead : ∀ {c : Prop} [Decidable c] {y : G}, (if c then G.dead else y) = v → y = v := fun e => by
    split at e
    · subst e; simp [immune0] at h
    · exact e
  constructor
  · intro e
    cases x with
    | own a b c => exact dead e
    | eltw a b c => exact dead e
    | dat a => exact dead e
    | ownt a b c => exact dead e
    | mp a b c => exact dead e
    | ownf a b c d => exact dead e
    | datt a b => exact dead e
    | fn f caps => cases caps with
      | nil => exact e
      | cons _ _ => have e' : G.dead = v := e; subst e'; simp [immune0] at h
    | meth f gs => have e' : G.dead = v := e; subst e'; simp [immune0] at h
    | _ => exact e
  · intro e
    subst e
    cases x with
    | own a b c => simp only [immune0, Bool.not_eq_true'] at h; show (if _ then _ else _) = _; rw [if_neg (Nat.ne_of_beq_eq_false h)]
    | eltw a b c => simp only [immune0, Bool.not_eq_true'] at h; show (if _ then _ else _) = _; rw [if_neg (Nat.ne_of_beq_eq_false h)]
    | dat a => simp only [immune0, Bool.not_eq_true'] at h; show (if _ then _ else _) = _; rw [if_neg (Nat.ne_of_beq_eq_false h)]
    | ownt a b c => simp only [immune0, Bool.not_eq_true'] at h; show (if _ then _ else _) = _; rw [if_neg (Nat.ne_of_beq_eq_false h)]
    | mp a b c => simp only [immune0, Bool.not_eq_true'] at h; show (if _ then _ else _) = _; rw [if_neg (Nat.ne_of_beq_eq_false h)]
    | ownf a b c d => simp only [immune0, Bool.not_eq_true'] at h; show (if _ then _ else _) = _; rw [if_neg (Nat.ne_of_beq_eq_false h)]
    | datt a b => simp only [immune0, Bool.not_eq_true'] at h; show (if _ then _ else _) = _; rw [if_neg (Nat.ne_of_beq_eq_false h)]
    | fn f caps => cases caps <;> first | rfl | (simp [immune0] at h; done)
    | _ => first | rfl | (simp [immune0] at h; done)
theorem map_iff {f : G → G} : ∀ {xs vs : List G}, (∀ v ∈ vs, ∀ x, f x = v ↔ x = v) → (xs.map f = vs ↔ xs = vs)
  | [], vs, h => by simp
  | x :: xs, [], h => by simp
  | x :: xs, v :: vs, h => by
    rw [List.map_cons, List.cons.injEq, List.cons.injEq, h v (by simp) x, map_iff (fun v hv => h v (by simp [hv]))]
theorem immuneA_iff {k : Nat} {x v : G} (h : immuneA k v = true) : kRa k x = v ↔ x = v := by
  cases v with
  | agg gs =>
    simp only [immuneA, List.all_eq_true] at h
    cases x with
    | agg xs =>
      show G.agg (xs.map (kR0 k)) = _ ↔ _
      rw [G.agg.injEq, G.agg.injEq]
      exact map_iff (fun v hv x => immune0_iff (h v hv))
    | tup xs => exact ⟨fun e => (by have e' : G.junk = .agg gs := e; cases e'), fun e => (by cases e)⟩
    | own a b c => exact ⟨fun e => (by have e' : (if a = k then G.dead else .own a b c) = .agg gs := e; split at e' <;> cases e'), fun e => (by cases e)⟩
    | eltw a b c => exact ⟨fun e => (by have e' : (if a = k then G.dead else .eltw a b c) = .agg gs := e; split at e' <;> cases e'), fun e => (by cases e)⟩
    | dat a => exact ⟨fun e => (by have e' : (if a = k then G.dead else .dat a) = .agg gs := e; split at e' <;> cases e'), fun e => (by cases e)⟩
    | ownt a b c => exact ⟨fun e => (by have e' : (if a = k then G.dead else .ownt a b c) = .agg gs := e; split at e' <;> cases e'), fun e => (by cases e)⟩
    | mp a b c => exact ⟨fun e => (by have e' : (if a = k then G.dead else .mp a b c) = .agg gs := e; split at e' <;> cases e'), fun e => (by cases e)⟩
    | ownf a b c d => exact ⟨fun e => (by have e' : (if a = k then G.dead else .ownf a b c d) = .agg gs := e; split at e' <;> cases e'), fun e => (by cases e)⟩
    | datt a b => exact ⟨fun e => (by have e' : (if a = k then G.dead else .datt a b) = .agg gs := e; split at e' <;> cases e'), fun e => (by cases e)⟩
    | fn f caps => cases caps <;> exact ⟨fun e => (by cases e), fun e => (by cases e)⟩
    | _ => exact ⟨fun e => (by cases e), fun e => (by cases e)⟩
  | _ =>
    have h0 := h
    simp only [immuneA] at h0
    by_cases hx : ∃ xs, x = .agg xs
    · obtain ⟨xs, rfl⟩ := hx
      exact ⟨fun e => (by cases e), fun e => (by cases e)⟩
    · by_cases ht : ∃ xs, x = .tup xs
      · obtain ⟨xs, rfl⟩ := ht
        refine ⟨fun e => ?_, fun e => ?_⟩
        · have e' : G.junk = _ := e
          rw [← e'] at h0; simp [immune0] at h0
        · rw [← e] at h0; simp [immune0] at h0
      · have e : kRa k x = kR0 k x := by cases x <;> first | rfl | exact absurd ⟨_, rfl⟩ hx | exact absurd ⟨_, rfl⟩ ht
        rw [e]; exact immune0_iff h0
theorem immune1_iff {k : Nat} {x v : G} (h : immune1 k v = true) : kR1 k x = v ↔ x = v := by
  cases v with
  | fn f caps =>
    simp only [immune1, List.all_eq_true] at h
    cases x with
    | fn f' xs =>
      show G.fn f' (xs.map (kRa k)) = _ ↔ _
      rw [G.fn.injEq, G.fn.injEq]
      exact and_congr Iff.rfl (map_iff (fun v hv x => immuneA_iff (h v hv)))
    | own a b c => exact ⟨fun e => (by have e' : (if a = k then G.dead else .own a b c) = .fn f caps := e; split at e' <;> cases e'), fun e => (by cases e)⟩
    | eltw a b c => exact ⟨fun e => (by have e' : (if a = k then G.dead else .eltw a b c) = .fn f caps := e; split at e' <;> cases e'), fun e => (by cases e)⟩
    | dat a => exact ⟨fun e => (by have e' : (if a = k then G.dead else .dat a) = .fn f caps := e; split at e' <;> cases e'), fun e => (by cases e)⟩
    | ownt a b c => exact ⟨fun e => (by have e' : (if a = k then G.dead else .ownt a b c) = .fn f caps := e; split at e' <;> cases e'), fun e => (by cases e)⟩
    | mp a b c => exact ⟨fun e => (by have e' : (if a = k then G.dead else .mp a b c) = .fn f caps := e; split at e' <;> cases e'), fun e => (by cases e)⟩
    | ownf a b c d => exact ⟨fun e => (by have e' : (if a = k then G.dead else .ownf a b c d) = .fn f caps := e; split at e' <;> cases e'), fun e => (by cases e)⟩
    | datt a b => exact ⟨fun e => (by have e' : (if a = k then G.dead else .datt a b) = .fn f caps := e; split at e' <;> cases e'), fun e => (by cases e)⟩
    | _ => exact ⟨fun e => (by cases e), fun e => (by cases e)⟩
  | _ =>
    have h0 := h
    simp only [immune1] at h0
    by_cases hx : ∃ g xs, x = .fn g xs
    · obtain ⟨g, xs, rfl⟩ := hx
      exact ⟨fun e => (by cases e), fun e => (by cases e)⟩
    · have e : kR1 k x = kRa k x := by cases x <;> first | rfl | exact absurd ⟨_, _, rfl⟩ hx
      rw [e]; exact immuneA_iff h0
def killS (ks : List Nat) (slots : List G) : List G := ks.foldl (fun s k => s.map (kR1 k)) slots
theorem killS_len : ∀ (ks : List Nat) (s : List G), (killS ks s).length = s.length
  | [], s => rfl
  | k :: ks, s => by show (killS ks (s.map (kR1 k))).length = _; rw [killS_len ks]; simp
theorem killS_at : ∀ (ks : List Nat) (s : List G) (d : Nat) (v : G), (∀ k ∈ ks, immune1 k v = true) → v ≠ .junk → ((killS ks s).getD d .junk = v ↔ s.getD d .junk = v)
  | [], s, d, v, _, _ => Iff.rfl
  | k :: ks, s, d, v, h, hv => by
    show (killS ks (s.map (kR1 k))).getD d .junk = v ↔ _
    rw [killS_at ks _ d v (fun k' hk => h k' (by simp [hk])) hv]
    rw [List.getD_eq_getElem?_getD, List.getD_eq_getElem?_getD, List.getElem?_map]
    cases s[d]? with
    | none => simp
    | some x => simpa using immune1_iff (h k (by simp))
theorem killS_set : ∀ (ks : List Nat) (s : List G) (d : Nat) (v : G), (∀ k ∈ ks, immune1 k v = true) → killS ks (s.set d v) = (killS ks s).set d v
  | [], s, d, v, _ => rfl
  | k :: ks, s, d, v, h => by
    show killS ks ((s.set d v).map (kR1 k)) = (killS ks (s.map (kR1 k))).set d v
    rw [List.map_set, (immune1_iff (h k (by simp))).2 rfl, killS_set ks _ d v (fun k' hk => h k' (by simp [hk]))]
theorem immune_junk {k : Nat} : immune1 k .junk = false := rfl

/-- What an operation of a drawn region does: as above, with what it saw; or it makes the variables and rows anew, and gives rows up; or it makes the whole state, and stands between all others. -/
inductive Tx where
  | tr (t : Tr) (vals : List G)
  | mem (dst : Option Nat) (g : G) (look : List Nat) (kills : List Nat) (bs : List (Option (List G))) (rs : List (Option (List (List G))))
  | all (st : St)
def Tr.slotOnly (t : Tr) : Bool := t.wr.isNone && t.nb.isNone && t.rb.isNone && !t.rr
def Tx.app : Tx → St → St
  | .tr t _, st => t.app st
  | .mem d g _ ks bs rs, st => { slots := match d with | some d => (killS ks st.slots).set d g | none => killS ks st.slots, boxes := bs, rows := rs }
  | .all st', _ => st'
def Tx.away : Tx → Tx → Bool
  | .tr t _, .tr u _ => t.away u
  | .tr t vs, .mem d _ _ ks _ _ => t.slotOnly && (match d with | some d => !t.look.contains d && t.dst != some d | none => true) && (ks.isEmpty || (Nat.beq vs.length t.look.length && vs.all (fun v => ks.all fun k => immune1 k v) && ks.all fun k => immune1 k t.g))
  | .mem d _ L _ _ _, .tr u _ => u.wr.isNone && u.nb.isNone && (match u.dst with | some e => !L.contains e && d != some e | none => true)
  | _, _ => false
def Tx.apart (t u : Tx) : Bool := t.away u && u.away t
def Tx.Same : Tx → St → St → Prop
  | .tr t _, s, s' => t.Same s s'
  | .mem _ _ L _ _ _, s, s' => (∀ d ∈ L, s.slots.getD d .junk = s'.slots.getD d .junk) ∧ s.boxes = s'.boxes ∧ s.rows = s'.rows ∧ s.slots.length = s'.slots.length
  | .all _, s, s' => s = s'
/-- What it saw, it saw in s. -/
def Tx.Vals : Tx → St → Prop
  | .tr t vs, s => ∀ (i d : Nat), t.look[i]? = some d → ∀ v, vs[i]? = some v → v = s.slots.getD d .junk
  | _, _ => True
theorem Tx.Same.refl : ∀ (t : Tx) (s : St), t.Same s s
  | .tr t _, s => Tr.Same.refl t s
  | .mem .., s => ⟨fun _ _ => rfl, rfl, rfl, rfl⟩
  | .all _, s => rfl
theorem setD_out {d : Option Nat} {g : G} {xs : List G} {j : Nat} (h : d ≠ some j) : (match d with | some d => xs.set d g | none => xs).getD j .junk = xs.getD j .junk := by
  cases d with
  | none => rfl
  | some d =>
    simp only
    rw [getD_set, if_neg (fun e => h (by rw [e.1]))]
theorem setD_len (d : Option Nat) (g : G) (xs : List G) : (match d with | some d => xs.set d g | none => xs).length = xs.length := by cases d <;> simp
theorem mem_len (d : Option Nat) (g : G) (L ks : List Nat) (bs : List (Option (List G))) (rs : List (Option (List (List G)))) (s : St) : ((Tx.mem d g L ks bs rs).app s).slots.length = s.slots.length := by
  cases d with
  | none => exact killS_len ks s.slots
  | some d => show ((killS ks s.slots).set d g).length = _; rw [List.length_set, killS_len]
/-- What another one does, that is away, takes no view away and brings none. -/
theorem Tx.away_iff : ∀ {t u : Tx} {s0 : St}, t.Vals s0 → t.away u = true → ∀ (s : St), t.Same (u.app s) s0 ↔ t.Same s s0
  | .tr t vs, .tr u _, s0, _, h, s => by
    have hs := Tr.away_same h s (fun _ _ _ => trivial)
    exact ⟨fun k => hs.symm.trans k, fun k => hs.trans k⟩
  | .tr t vs, .mem d g L ks bs rs, s0, hv, h, s => by
    simp only [Tx.away, Tr.slotOnly, Bool.and_eq_true, Bool.or_eq_true, Bool.not_eq_true', Option.isNone_iff_eq_none, List.all_eq_true] at h
    obtain ⟨⟨⟨⟨⟨h1, h2⟩, h3⟩, h4⟩, h5⟩, h6⟩ := h
    have out : ∀ x ∈ t.look, d ≠ some x := fun x hx e => by
      subst e
      simp only [Bool.and_eq_true, Bool.not_eq_true'] at h5
      have := h5.1
      rw [List.contains_eq_mem] at this
      simp at this
      exact this hx
    have look : ∀ x ∈ t.look, ((Tx.mem d g L ks bs rs).app s).slots.getD x .junk = s0.slots.getD x .junk ↔ s.slots.getD x .junk = s0.slots.getD x .junk := fun x hx => by
      have e1 : ((Tx.mem d g L ks bs rs).app s).slots.getD x .junk = (killS ks s.slots).getD x .junk := setD_out (out x hx)
      rw [e1]
      rcases h6 with h6 | ⟨⟨h6, h7⟩, _⟩
      · have : ks = [] := by simpa using h6
        subst this; exact Iff.rfl
      · have h6 := Nat.eq_of_beq_eq_true h6
        obtain ⟨i, hi⟩ := List.mem_iff_getElem?.1 hx
        have hlt : i < vs.length := by rw [h6]; exact (List.getElem?_eq_some_iff.1 hi).1
        have e2 := hv i x hi _ (List.getElem?_eq_getElem hlt)
        have him := h7 _ (List.getElem_mem hlt)
        rw [e2] at him
        cases ks with
        | nil => exact Iff.rfl
        | cons k0 ks0 =>
          refine killS_at _ s.slots x _ him (fun e => ?_)
          have := him k0 (by simp)
          rw [e, immune_junk] at this; cases this
    have lenE : ((Tx.mem d g L ks bs rs).app s).slots.length = s.slots.length := mem_len d g L ks bs rs s
    constructor
    · intro k
      have k' : t.Same ((Tx.mem d g L ks bs rs).app s) s0 := k
      exact ⟨fun e => (by rw [h4] at e; cases e), fun x hx => (look x hx).1 (k'.look x hx), fun b o n e => (by rw [h3] at e; cases e), fun b o cs e => (by rw [h1] at e; cases e), fun b cs e => (by rw [h2] at e; cases e), by rw [← lenE]; exact k'.lenS, fun e => (by rw [h1, h2, h3] at e; cases e)⟩
    · intro k
      have k' : t.Same s s0 := k
      exact ⟨fun e => (by rw [h4] at e; cases e), fun x hx => (look x hx).2 (k'.look x hx), fun b o n e => (by rw [h3] at e; cases e), fun b o cs e => (by rw [h1] at e; cases e), fun b cs e => (by rw [h2] at e; cases e), by rw [lenE]; exact k'.lenS, fun e => (by rw [h1, h2, h3] at e; cases e)⟩
  | .mem d g L ks bs rs, .tr u _, s0, _, h, s => by
    simp only [Tx.away, Bool.and_eq_true, Option.isNone_iff_eq_none] at h
    obtain ⟨⟨h1, h2⟩, h3⟩ := h
    have look : ∀ x ∈ L, (u.app s).slots.getD x .junk = s.slots.getD x .junk := fun x hx => by
      refine setD_out (fun e => ?_)
      rw [e] at h3
      simp only [Bool.and_eq_true, Bool.not_eq_true'] at h3
      have := h3.1
      rw [List.contains_eq_mem] at this
      simp at this
      exact this hx
    have hb : (u.app s).boxes = s.boxes := by unfold Tr.app; rw [h1, h2]
    constructor
    · intro ⟨k1, k2, k3, k4⟩
      exact ⟨fun x hx => (look x hx).symm.trans (k1 x hx), hb.symm.trans k2, k3, (app_lenS u s).symm.trans k4⟩
    · intro ⟨k1, k2, k3, k4⟩
      exact ⟨fun x hx => (look x hx).trans (k1 x hx), hb.trans k2, k3, (app_lenS u s).trans k4⟩
  | .tr _ _, .all _, _, _, h, _ => by simp [Tx.away] at h
  | .mem .., .mem .., _, _, h, _ => by simp [Tx.away] at h
  | .mem .., .all _, _, _, h, _ => by simp [Tx.away] at h
  | .all _, _, _, _, h, _ => by simp [Tx.away] at h
theorem tm_comm {t : Tr} {vs : List G} {d : Option Nat} {g : G} {L ks : List Nat} {bs : List (Option (List G))} {rs : List (Option (List (List G)))} (h1 : Tx.away (.tr t vs) (.mem d g L ks bs rs) = true) (s : St) :
    (Tx.tr t vs).app ((Tx.mem d g L ks bs rs).app s) = (Tx.mem d g L ks bs rs).app ((Tx.tr t vs).app s) := by
  simp only [Tx.away, Tr.slotOnly, Bool.and_eq_true, Bool.or_eq_true, Bool.not_eq_true', Option.isNone_iff_eq_none, List.all_eq_true] at h1
  obtain ⟨⟨⟨⟨⟨h1, h2⟩, h3⟩, h4⟩, h5⟩, h6⟩ := h1
  have him : ∀ k ∈ ks, immune1 k t.g = true := by
    rcases h6 with h6 | ⟨_, h6⟩
    · have : ks = [] := by simpa using h6
      subst this; exact fun k hk => by simp at hk
    · exact h6
  show Tr.app t _ = _
  unfold Tr.app Tx.app
  rw [h1, h2]
  simp only
  congr 1
  unfold Tr.app
  cases ht : t.dst with
  | none => rfl
  | some e =>
    cases d with
    | none =>
      simp only
      exact (killS_set ks s.slots e t.g him).symm
    | some d =>
      simp only [Bool.and_eq_true, bne_iff_ne] at h5
      simp only
      rw [killS_set ks s.slots e t.g him]
      exact List.set_comm _ _ (fun x => h5.2 (by rw [ht, x]))
theorem Tx.apart_comm : ∀ {t u : Tx}, t.apart u = true → ∀ (s : St), t.app (u.app s) = u.app (t.app s)
  | .tr t _, .tr u _, h, s => Tr.apart_comm h s
  | .tr t _, .mem d g L ks bs rs, h, s => by
    simp only [Tx.apart, Bool.and_eq_true] at h
    exact tm_comm h.1 s
  | .mem d g L ks bs rs, .tr u _, h, s => by
    simp only [Tx.apart, Bool.and_eq_true] at h
    exact (tm_comm h.2 s).symm
  | .tr _ _, .all _, h, _ => by simp [Tx.apart, Tx.away] at h
  | .mem .., .mem .., h, _ => by simp [Tx.apart, Tx.away] at h
  | .mem .., .all _, h, _ => by simp [Tx.apart, Tx.away] at h
  | .all _, _, h, _ => by simp [Tx.apart, Tx.away] at h
end Go.Proofs.YtijohhdgecadnaaDoor.Av
namespace Go.Proofs.YtijohhdgecadnaaDoor.Av
open Go Go.RowKit
set_option linter.unusedVariables false
set_option linter.unusedSimpArgs false

def pureOp : Op → Bool
  | .move _ | .assign _ | .pick .. | .binOp .. | .unOp .. | .build .. | .fieldAddr .. | .field .. | .indexAddr .. | .index .. | .extract .. | .nilCheck _ | .convert .. | .slice .. | .makeInterface .. => true
  | .makeFunc .. => true
  | .buildSlice .. => true
  | .call { callee := .builtin .len, .. } | .call { callee := .builtin .min, .. } | .call { callee := .builtin .max, .. } => true
  | _ => false
def Det (X : (G → Prop) → Prop) : Prop := ∀ K, X K → ∃ g, K g ∧ ∀ K', K' g → X K'
theorem arithP_det (op : BinOp) (k : IntKind) (m n : Int) : Det (arithP op k m n) := fun K h => by
  cases op <;> simp only [arithP] at h ⊢ <;> first
    | exact ⟨_, h, fun K' h' => h'⟩
    | exact h.elim
    | (cases hb : (n == 0) with
       | true => rw [hb] at h; exact h.elim
       | false => rw [hb] at h; exact ⟨_, h, fun K' h' => h'⟩)
theorem strP_det (op : BinOp) (x y : ByteArray) : Det (strP op x y) := fun K h => by
  cases op <;> simp only [strP] at h ⊢ <;> first
    | exact ⟨_, h.2, fun K' h' => ⟨h.1, h'⟩⟩
    | exact ⟨_, h, fun K' h' => h'⟩
    | exact h.elim
theorem binP_det (P : Program) (op : BinOp) (t : TypeId) (x y : G) : Det (binP P op t x y) := fun K h => by
  unfold binP at h
  split at h
  · split at h
    · rename_i k m k' n opx
      cases hb : decide (n < 0) with
      | true => rw [hb] at h; exact h.elim
      | false => rw [hb] at h; exact ⟨_, h, fun K' h' => by simp only [binP]; rw [hb]; exact h'⟩
    · rename_i k m k' n opx
      cases hb : decide (n < 0) with
      | true => rw [hb] at h; exact h.elim
      | false => rw [hb] at h; exact ⟨_, h, fun K' h' => by simp only [binP]; rw [hb]; exact h'⟩
    · split at h
      · rename_i k m k' n h1 h2 e
        obtain ⟨g, h3, h4⟩ := arithP_det _ _ _ _ K h
        refine ⟨g, h3, fun K' h' => ?_⟩
        unfold binP
        cases op <;> first | exact absurd rfl h1 | exact absurd rfl h2 | (simp only [e, if_true]; rw [← e]; exact h4 K' h')
      · exact h.elim
  · obtain ⟨g, h3, h4⟩ := strP_det _ _ _ K h
    exact ⟨g, h3, fun K' h' => h4 K' h'⟩
  · split at h
    · rename_i e; exact ⟨_, h, fun K' h' => by simp only [binP, e]; exact h'⟩
    · rename_i e; exact ⟨_, h, fun K' h' => by simp only [binP, e]; exact h'⟩
    · exact h.elim
  · obtain ⟨c1, h⟩ := h
    split at h
    · exact h.elim
    · rename_i c2
      split at h
      · rename_i e; exact ⟨_, h, fun K' h' => by simp only [binP]; refine ⟨c1, ?_⟩; rw [if_neg c2]; simp only [e]; exact h'⟩
      · rename_i e; exact ⟨_, h, fun K' h' => by simp only [binP]; refine ⟨c1, ?_⟩; rw [if_neg c2]; simp only [e]; exact h'⟩
      · exact h.elim
  · exact h.elim
theorem unP_det (op : UnOp) (x : G) : Det (unP op x) := fun K h => by
  unfold unP at h
  split at h
  · exact ⟨_, h, fun K' h' => h'⟩
  · exact ⟨_, h, fun K' h' => h'⟩
  · exact h.elim
theorem boundP_det (x : Option G) (d : Nat) (K : Nat → Int → Prop) (h : boundP x d K) : ∃ n z, K n z ∧ ∀ K' : Nat → Int → Prop, K' n z → boundP x d K' := by
  unfold boundP at h
  split at h
  · exact ⟨_, _, h, fun K' h' => h'⟩
  · exact ⟨_, _, h, fun K' h' => h'⟩
  · exact h.elim

theorem buildCells_congr {pl : Nat → Option (Nat × Nat)} {st st' : St} : ∀ (parts : List (Nat × Operand)) (cs : List G), (∀ p ∈ parts, st'.ev p.2 = st.ev p.2) → buildCells pl st' cs parts = buildCells pl st cs parts
  | [], cs, h => rfl
  | (i, x) :: parts, cs, h => by
    unfold buildCells
    have hx := h (i, x) (by simp)
    simp only at hx
    rw [hx]
    cases pl i with
    | none => rfl
    | some q =>
      obtain ⟨o, n⟩ := q
      simp only
      split
      · rw [fL_eq, fL_eq]; exact buildCells_congr parts _ (fun p hp => h p (by simp [hp]))
      · rfl

/-- Operations that look at own rows. -/
def isOwn : G → Bool
  | .own .. => true
  | .ownf .. => true
  | _ => false
def ownOp (st : St) : Op → Bool
  | .indexAddr _ x _ => isOwn (st.ev x)
  | .slice _ x .. => isOwn (st.ev x)
  | .convert _ _ x => isOwn (st.ev x)
  | _ => false
theorem vop_det {P : Program} {d : Nat} {op : Op} {st : St} {k : G → St → Prop} (hp : pureOp op = true) (h : vop P d op st k) :
    ∃ g, k g st ∧ ∀ (d' : Nat) (st' : St), (ownOp st op = true → st'.rows = st.rows) → (∀ x ∈ op.operands.toList, st'.ev x = st.ev x) → ∀ (k' : G → St → Prop), k' g st' → vop P d' op st' k' := by
  cases op with
  | move x => exact ⟨_, h, fun d' st' hr he k' h' => by simp only [vop]; rw [he x (by simp [Op.operands])]; exact h'⟩
  | assign x => exact ⟨_, h, fun d' st' hr he k' h' => by simp only [vop]; rw [he x (by simp [Op.operands])]; exact h'⟩
  | pick c x y =>
    simp only [vop] at h
    cases hc : st.ev c with
    | bool t =>
      rw [hc] at h
      cases t with
      | true => exact ⟨_, h, fun d' st' hr he k' h' => by simp only [vop]; rw [he c (by simp [Op.operands]), hc, he x (by simp [Op.operands])]; exact h'⟩
      | false => exact ⟨_, h, fun d' st' hr he k' h' => by simp only [vop]; rw [he c (by simp [Op.operands]), hc, he y (by simp [Op.operands])]; exact h'⟩
    | _ => rw [hc] at h; exact h.elim
  | binOp b t x y yt =>
    simp only [vop] at h
    obtain ⟨g, h1, h2⟩ := binP_det P b t _ _ _ h
    exact ⟨g, h1, fun d' st' hr he k' h' => by simp only [vop]; rw [he x (by simp [Op.operands]), he y (by simp [Op.operands])]; exact h2 _ h'⟩
  | unOp u t x =>
    simp only [vop] at h
    obtain ⟨g, h1, h2⟩ := unP_det u _ _ h
    exact ⟨g, h1, fun d' st' hr he k' h' => by simp only [vop]; rw [he x (by simp [Op.operands])]; exact h2 _ h'⟩
  | build t parts =>
    simp only [vop] at h
    split at h
    · rename_i fs cs e1 e2
      cases hb : fs.toList.all (fun f => (P.info? f.type).isSome) with
      | false => rw [hb] at h; exact h.elim
      | true =>
        rw [hb] at h
        simp only [cond_true] at h
        split at h
        · rename_i gs e3
          refine ⟨_, h, fun d' st' hr he k' h' => ?_⟩
          simp only [vop, e1, e2, hb, cond_true]
          rw [buildCells_congr (st := st) parts.toList cs (fun p hp => he p.2 (by simp only [Op.operands]; simp; exact ⟨p.1, by simpa using hp⟩)), e3]
          exact h'
        · exact h.elim
    · rename_i n e cs e1 e2
      cases hb : (P.info? e).isSome with
      | false => rw [hb] at h; exact h.elim
      | true =>
        rw [hb] at h
        simp only [cond_true] at h
        split at h
        · rename_i gs e3
          refine ⟨_, h, fun d' st' hr he k' h' => ?_⟩
          simp only [vop, e1, e2, hb, cond_true]
          rw [buildCells_congr (st := st) parts.toList cs (fun p hp => he p.2 (by simp only [Op.operands]; simp; exact ⟨p.1, by simpa using hp⟩)), e3]
          exact h'
        · exact h.elim
    · exact h.elim
  | buildSlice t len parts =>
    simp only [vop] at h
    split at h
    · rename_i e e1
      split at h
      · rename_i zc e2
        cases hb : (P.cellsOf e == 0) || !(Nat.ble (len * P.cellsOf e) 16777216) with
        | true => rw [hb] at h; exact h.elim
        | false =>
          rw [hb] at h
          simp only [cond_false] at h
          split at h
          · rename_i gs e3
            cases hc : gs.all G.closed0 with
            | false => rw [hc] at h; exact h.elim
            | true =>
              rw [hc] at h
              simp only [cond_true, fLL_eq] at h
              refine ⟨_, h, fun d' st' hr he k' h' => ?_⟩
              simp only [vop, e1, e2, hb, cond_false]
              rw [buildCells_congr (st := st) parts.toList _ (fun p hp => he p.2 (by simp only [Op.operands]; simp; exact ⟨p.1, by simpa using hp⟩)), e3]
              simp only [hc, cond_true, fLL_eq]
              exact h'
          · exact h.elim
      · exact h.elim
    · exact h.elim
  | fieldAddr s x f =>
    simp only [vop] at h
    split at h
    · rename_i fl e1
      cases hb : (P.cellsOf fl.type == 0) || (P.info? fl.type).isNone with
      | true => rw [hb] at h; exact h.elim
      | false =>
        rw [hb] at h
        simp only [cond_false] at h
        split at h
        all_goals first
          | exact h.elim
          | (rename_i e2
             exact ⟨_, h, fun d' st' hr he k' h' => by simp only [vop, e1, hb, cond_false]; rw [he x (by simp [Op.operands]), e2]; exact h'⟩)
    · exact h.elim
  | field t x f =>
    simp only [vop] at h
    split at h
    · rename_i fl gs e1 e2
      split at h
      · rename_i dd e3
        cases hb : Nat.ble (fl.offset + wide P dd fl.type) gs.length with
        | false => rw [hb] at h; exact h.elim
        | true =>
          rw [hb] at h
          exact ⟨_, h, fun d' st' hr he k' h' => by simp only [vop, e1]; rw [he x (by simp [Op.operands]), e2]; simp only [e3, hb]; exact h'⟩
      · exact h.elim
    · exact h.elim
  | indexAddr t x i =>
    simp only [vop] at h
    split at h
    · rename_i e xs kd n e1 e2 e3
      obtain ⟨row, h1, h⟩ := h
      cases hb : (row.length == P.cellsOf e) && (P.info? e).isSome with
      | false => rw [hb] at h; exact h.elim
      | true =>
        rw [hb] at h
        exact ⟨_, h, fun d' st' hr he k' h' => by simp only [vop, e1]; rw [he x (by simp [Op.operands]), he i (by simp [Op.operands]), e2, e3]; exact ⟨row, h1, by rw [hb]; exact h'⟩⟩
    · rename_i e kk off len kd n e1 e2 e3
      split at h
      · rename_i xs e4
        obtain ⟨row, h1, h⟩ := h
        cases hb : (row.length == P.cellsOf e) && (P.info? e).isSome with
        | false => rw [hb] at h; exact h.elim
        | true =>
          rw [hb] at h
          exact ⟨_, h, fun d' st' hr he k' h' => by simp only [vop, e1]; rw [he x (by simp [Op.operands]), he i (by simp [Op.operands]), e2, e3]; simp only [hr (by show isOwn (st.ev x) = true; rw [e2]; rfl), e4]; exact ⟨row, h1, by rw [hb]; exact h'⟩⟩
      · exact h.elim
    · rename_i len e b off kd n e1 e2 e3
      obtain ⟨h1, h⟩ := h
      cases hb : (P.info? e).isSome with
      | false => rw [hb] at h; exact h.elim
      | true =>
        rw [hb] at h
        exact ⟨_, h, fun d' st' hr he k' h' => by simp only [vop, e1]; rw [he x (by simp [Op.operands]), he i (by simp [Op.operands]), e2, e3]; exact ⟨h1, by rw [hb]; exact h'⟩⟩
    · exact h.elim
  | index t x i =>
    simp only [vop] at h
    split at h
    · rename_i s kd n e1 e2 e3
      exact ⟨_, h.2, fun d' st' hr he k' h' => by simp only [vop, e1]; rw [he x (by simp [Op.operands]), he i (by simp [Op.operands]), e2, e3]; exact ⟨h.1, h'⟩⟩
    · rename_i len e gs kd n e1 e2 e3
      split at h
      · rename_i dd e4
        cases hb : (gs.length == len * P.cellsOf e) && (wide P dd e == P.cellsOf e) with
        | false => rw [hb] at h; exact h.elim
        | true =>
          rw [hb] at h
          exact ⟨_, h.2, fun d' st' hr he k' h' => by simp only [vop, e1]; rw [he x (by simp [Op.operands]), he i (by simp [Op.operands]), e2, e3]; simp only [e4, hb]; exact ⟨h.1, h'⟩⟩
      · exact h.elim
    · exact h.elim
  | extract x i =>
    simp only [vop] at h
    split at h
    · rename_i gs e1
      split at h
      · rename_i g e2
        exact ⟨_, h, fun d' st' hr he k' h' => by simp only [vop]; rw [he x (by simp [Op.operands]), e1]; simp only [e2]; exact h'⟩
      · exact h.elim
    · exact h.elim
  | nilCheck x =>
    simp only [vop] at h
    split at h
    all_goals first
      | exact h.elim
      | (rename_i e1
         exact ⟨_, h, fun d' st' hr he k' h' => by simp only [vop]; rw [he x (by simp [Op.operands]), e1]; exact h'⟩)
  | convert s t x =>
    simp only [vop] at h
    split at h
    · rename_i e1 e2 e3
      exact ⟨_, h, fun d' st' hr he k' h' => by simp only [vop, e1, e2]; rw [he x (by simp [Op.operands]), e3]; exact h'⟩
    · rename_i e1 e2 e3
      exact ⟨_, h, fun d' st' hr he k' h' => by simp only [vop, e1, e2]; rw [he x (by simp [Op.operands]), e3]; exact h'⟩
    · exact h.elim
  | slice t x lo hi mx =>
    cases mx with
    | some _ => simp [vop] at h
    | none =>
      have mapeq : ∀ (st' : St) (o : Option Operand), (∀ y, o = some y → st'.ev y = st.ev y) → o.map st'.ev = o.map st.ev := fun st' o ho => by
        cases o with
        | none => rfl
        | some y => simp [ho y rfl]
      simp only [vop] at h
      split at h
      · rename_i s e1 e2
        obtain ⟨hh, hz, h, d1⟩ := boundP_det _ _ _ h
        obtain ⟨l, lz, h, d2⟩ := boundP_det _ _ _ h
        refine ⟨_, h.2, fun d' st' hr he k' h' => ?_⟩
        simp only [vop, e1]
        rw [he x (by simp [Op.operands]), e2, mapeq st' hi (fun y hy => he y (by subst hy; simp [Op.operands])), mapeq st' lo (fun y hy => he y (by subst hy; simp [Op.operands]))]
        exact d1 _ (d2 _ ⟨h.1, h'⟩)
      · rename_i e xs e1 e2
        cases hb : (P.info? e).isNone with
        | true => rw [hb] at h; exact h.elim
        | false =>
          rw [hb] at h
          simp only [cond_false] at h
          obtain ⟨hh, hz, h, d1⟩ := boundP_det _ _ _ h
          obtain ⟨l, lz, h, d2⟩ := boundP_det _ _ _ h
          refine ⟨_, h.2, fun d' st' hr he k' h' => ?_⟩
          simp only [vop, e1]
          rw [he x (by simp [Op.operands]), e2, mapeq st' hi (fun y hy => he y (by subst hy; simp [Op.operands])), mapeq st' lo (fun y hy => he y (by subst hy; simp [Op.operands]))]
          simp only [hb, cond_false]
          exact d1 _ (d2 _ ⟨h.1, h'⟩)
      · exact h.elim
  | makeFunc fn first caps =>
    cases fn with
    | func f =>
      simp only [vop] at h
      have e1 : ∀ st' : St, (∀ x ∈ (Op.makeFunc (.func f) first caps).operands.toList, st'.ev x = st.ev x) → caps.toList.map st'.ev = caps.toList.map st.ev := fun st' he => List.map_congr_left fun x hx => he x (by simp only [Op.operands, Array.toList_append]; exact List.mem_append_right _ hx)
      have f1 : ∀ st' : St, (∀ x ∈ (Op.makeFunc (.func f) first caps).operands.toList, st'.ev x = st.ev x) → first.toList.map st'.ev = first.toList.map st.ev := fun st' he => List.map_congr_left fun x hx => he x (by simp only [Op.operands, Array.toList_append]; exact List.mem_append_left _ hx)
      have e2 : ∀ st' : St, (∀ x ∈ (Op.makeFunc (.func f) first caps).operands.toList, st'.ev x = st.ev x) → caps.toList.all (fun x => okReg (st'.ev x)) = caps.toList.all (fun x => okReg (st.ev x)) := fun st' he => by
        have := congrArg (fun l => l.all okReg) (e1 st' he)
        simpa [List.all_map, Function.comp_def] using this
      have f2 : ∀ st' : St, (∀ x ∈ (Op.makeFunc (.func f) first caps).operands.toList, st'.ev x = st.ev x) → first.toList.all (fun x => okReg (st'.ev x)) = first.toList.all (fun x => okReg (st.ev x)) := fun st' he => by
        have := congrArg (fun l => l.all okReg) (f1 st' he)
        simpa [List.all_map, Function.comp_def] using this
      cases hb : first.isEmpty && caps.toList.all (fun x => okReg (st.ev x)) with
      | false =>
        rw [hb] at h
        simp only [cond_false] at h
        cases hb2 : caps.isEmpty && first.toList.all (fun x => okReg (st.ev x)) with
        | false => rw [hb2] at h; exact False.elim h
        | true =>
          rw [hb2] at h
          refine ⟨_, h, fun d' st' hr he k' h' => ?_⟩
          simp only [vop]
          rw [e2 st' he, hb, f2 st' he, hb2, f1 st' he]
          exact h'
      | true =>
        rw [hb] at h
        refine ⟨_, h, fun d' st' hr he k' h' => ?_⟩
        simp only [vop]
        rw [e2 st' he, hb, e1 st' he]
        exact h'
    | _ => simp [vop] at h
  | makeInterface t x =>
    simp only [vop] at h
    split at h
    · rename_i e1 e2
      exact ⟨_, h, fun d' st' hr he k' h' => by simp only [vop, e1]; rw [he x (by simp [Op.operands]), e2]; exact h'⟩
    · rename_i e1 e2
      exact ⟨_, h, fun d' st' hr he k' h' => by simp only [vop, e1]; rw [he x (by simp [Op.operands]), e2]; exact h'⟩
    · exact h.elim
  | call c =>
    obtain ⟨callee, args, ats⟩ := c
    cases callee with
    | builtin b =>
      have e0 : ∀ st' : St, (∀ x ∈ (Op.call ⟨.builtin b, args, ats⟩).operands.toList, st'.ev x = st.ev x) → args.toList.map st'.ev = args.toList.map st.ev := fun st' he =>
        List.map_congr_left fun x hx => he x (by simp only [Op.operands, Call.operands, Array.toList_append]; exact List.mem_append_right _ hx)
      simp only [vop] at h
      split at h
      · rename_i x e1
        split at h
        · rename_i t e2
          split at h
          · rename_i dd e3
            split at h
            · rename_i n e4
              cases hb : isStrOrSl dd x with
              | false => rw [hb] at h; exact h.elim
              | true =>
                rw [hb] at h
                exact ⟨_, h, fun d' st' hr he k' h' => by simp only [vop]; rw [e0 st' he, e1]; simp only [e2, e3, e4, hb]; exact h'⟩
            · exact h.elim
          · exact h.elim
        · exact h.elim
      · rename_i x xs e1
        split at h
        · rename_i g e2
          exact ⟨_, h, fun d' st' hr he k' h' => by simp only [vop]; rw [e0 st' he, e1]; simp only [e2]; exact h'⟩
        · exact h.elim
      · rename_i x xs e1
        split at h
        · rename_i g e2
          exact ⟨_, h, fun d' st' hr he k' h' => by simp only [vop]; rw [e0 st' he, e1]; simp only [e2]; exact h'⟩
        · exact h.elim
      · exact h.elim
    | _ => simp [vop] at h
  | _ => simp [pureOp] at hp
theorem boundP_map {st st' : St} {o : Option Operand} (h : ∀ y, o = some y → st'.ev y = st.ev y) : o.map st'.ev = o.map st.ev := by
  cases o with
  | none => rfl
  | some y => simp [h y rfl]
theorem xop_det {P : Program} {d : Nat} {op : Op} {st : St} {k : G → St → Prop} (hp : pureOp op = true) (h : xop P d op st k) :
    ∃ g, k g st ∧ ∀ (d' : Nat) (st' : St), (ownOp st op = true → st'.rows = st.rows) → (∀ x ∈ op.operands.toList, st'.ev x = st.ev x) → ∀ (k' : G → St → Prop), k' g st' → xop P d' op st' k' := by
  unfold xop at h
  split at h
  · simp [pureOp] at hp
  · simp [pureOp] at hp
  · rename_i t x lo hi
    split at h
    · rename_i kk off len hx
      unfold sliceO at h
      split at h
      · rename_i e xs hu hxs
        cases hin : (P.info? e).isNone with
        | true => rw [hin] at h; exact h.elim
        | false =>
          rw [hin] at h
          simp only [cond_false] at h
          obtain ⟨hh, hz, h, d1⟩ := boundP_det _ _ _ h
          obtain ⟨l, lz, h, d2⟩ := boundP_det _ _ _ h
          refine ⟨_, h.2, fun d' st' hr he k' h' => ?_⟩
          unfold xop
          simp only [he x (by simp [Op.operands]), hx]
          unfold sliceO
          rw [hu, hr (by show isOwn (st.ev x) = true; rw [hx]; rfl), hxs]
          simp only [hin, cond_false]
          rw [boundP_map (o := hi) (fun y hy => he y (by subst hy; simp [Op.operands])), boundP_map (o := lo) (fun y hy => he y (by subst hy; simp [Op.operands]))]
          exact d1 _ (d2 _ ⟨h.1, h'⟩)
      · exact h.elim
    · rename_i kk off len N hx
      unfold sliceF at h
      split at h
      · rename_i e xs hu hxs
        cases hin : (P.info? e).isNone with
        | true => rw [hin] at h; exact h.elim
        | false =>
          rw [hin] at h
          simp only [cond_false] at h
          obtain ⟨hh, hz, h, d1⟩ := boundP_det _ _ _ h
          obtain ⟨l, lz, h, d2⟩ := boundP_det _ _ _ h
          refine ⟨_, h.2, fun d' st' hr he k' h' => ?_⟩
          unfold xop
          simp only [he x (by simp [Op.operands]), hx]
          unfold sliceF
          rw [hu, hr (by show isOwn (st.ev x) = true; rw [hx]; rfl), hxs]
          simp only [hin, cond_false]
          rw [boundP_map (o := hi) (fun y hy => he y (by subst hy; simp [Op.operands])), boundP_map (o := lo) (fun y hy => he y (by subst hy; simp [Op.operands]))]
          exact d1 _ (d2 _ ⟨h.1, h'⟩)
      · exact h.elim
    · rename_i hx hx2
      obtain ⟨g, h1, h2⟩ := vop_det rfl h
      refine ⟨g, h1, fun d' st' hr he k' h' => ?_⟩
      unfold xop
      simp only [he x (by simp [Op.operands])]
      first
      | exact h2 d' st' hr he k' h'
      | (split
         · rename_i kk off len e; exact absurd e (hx kk off len)
         · rename_i kk off len N e; exact absurd e (hx2 kk off len N)
         · exact h2 d' st' hr he k' h')
  · rename_i t x hh m
    unfold cutP at h
    split at h
    · rename_i e k1 hn k2 mn g hu e1 e2 hg
      cases hi : (P.info? e).isSome with
      | false => rw [hi] at h; exact h.elim
      | true =>
        rw [hi] at h
        refine ⟨_, h.2, fun d' st' hr he k' h' => ?_⟩
        unfold xop cutP
        simp only [he x (by simp [Op.operands]), he hh (by simp [Op.operands]), he m (by simp [Op.operands]), hu, e1, e2, hg, hi]
        exact ⟨h.1, h'⟩
    · exact h.elim
  · rename_i t x ll hh m
    unfold cut3P at h
    split at h
    · rename_i e kk off len N k1 ln k2 hn k3 mn hu e0 e1 e2 e3
      cases hi : (P.info? e).isSome with
      | false => rw [hi] at h; exact h.elim
      | true =>
        rw [hi] at h
        refine ⟨_, h.2, fun d' st' hr he k' h' => ?_⟩
        unfold xop cut3P
        simp only [he x (by simp [Op.operands]), he hh (by simp [Op.operands]), he ll (by simp [Op.operands]), he m (by simp [Op.operands]), hu, e0, e1, e2, e3, hi]
        exact ⟨h.1, h'⟩
    · exact h.elim
  · rename_i t
    unfold noneP at h
    split at h
    · rename_i e hu
      cases hi : (P.info? e).isSome with
      | false => rw [hi] at h; exact h.elim
      | true =>
        rw [hi] at h
        refine ⟨_, h, fun d' st' hr he k' h' => ?_⟩
        unfold xop noneP
        simp only [hu, hi]
        exact h'
    · exact h.elim
  · rename_i src dst x
    cases hn : isNum (st.ev x) with
    | true =>
      rw [hn] at h
      simp only [cond_true] at h
      obtain ⟨g, h1, h2⟩ := vop_det rfl h
      refine ⟨g, h1, fun d' st' hr he k' h' => ?_⟩
      unfold xop
      simp only [he x (by simp [Op.operands]), hn, cond_true]
      exact h2 d' st' hr he k' h'
    | false =>
      rw [hn] at h
      simp only [cond_false] at h
      unfold bytesP at h
      split at h
      · rename_i e hu hd
        split at h
        · rename_i he0
          have key : ∃ ys, (∃ bs : List UInt8, ys = bs.map (fun b => [G.int .u8 b.toNat]) ∧ k (.str ⟨bs.toArray⟩) st) ∧ ∀ (st' : St), (isOwn (st.ev x) = true → st'.rows = st.rows) → ∀ k2 : List (List G) → Prop, k2 ys → srcP st' (st.ev x) k2 := by
            unfold srcP at h
            split at h
            · rename_i e1; exact ⟨_, h, fun st' _ k2 hk => by rw [e1]; exact hk⟩
            · rename_i e1; exact ⟨_, h, fun st' _ k2 hk => by rw [e1]; exact hk⟩
            · rename_i e1; exact ⟨_, h, fun st' _ k2 hk => by rw [e1]; exact hk⟩
            · rename_i e1; exact ⟨_, h, fun st' _ k2 hk => by rw [e1]; exact hk⟩
            · rename_i e1
              split at h
              · rename_i e2; exact ⟨_, h.2, fun st' hr k2 hk => by rw [e1]; simp only [srcP, hr (by rw [e1]; rfl), e2]; exact ⟨h.1, hk⟩⟩
              · exact h.elim
            · rename_i e1
              split at h
              · rename_i e2; exact ⟨_, h.2, fun st' hr k2 hk => by rw [e1]; simp only [srcP, hr (by rw [e1]; rfl), e2]; exact ⟨h.1, hk⟩⟩
              · exact h.elim
            · rename_i e1; exact ⟨_, h, fun st' _ k2 hk => by rw [e1]; exact hk⟩
            · exact h.elim
          obtain ⟨ys, ⟨bs, hbs, h⟩, hq⟩ := key
          refine ⟨_, h, fun d' st' hr he k' h' => ?_⟩
          unfold xop
          simp only [he x (by simp [Op.operands]), hn, cond_false]
          unfold bytesP
          simp only [hu, hd, he0]
          exact hq st' hr _ ⟨bs, hbs, h'⟩
        · exact h.elim
      · exact h.elim
  · rename_i t x y yt
    split at h
    · rename_i b hb
      exact ⟨_, h, fun d' st' hr he k' h' => by unfold xop; simp only [he x (by simp [Op.operands]), he y (by simp [Op.operands]), hb]; exact h'⟩
    · rename_i hb
      obtain ⟨g, h1, h2⟩ := vop_det rfl h
      exact ⟨g, h1, fun d' st' hr he k' h' => by unfold xop; simp only [he x (by simp [Op.operands]), he y (by simp [Op.operands]), hb]; exact h2 d' st' hr he k' h'⟩
  · rename_i t x y yt
    split at h
    · rename_i b hb
      exact ⟨_, h, fun d' st' hr he k' h' => by unfold xop; simp only [he x (by simp [Op.operands]), he y (by simp [Op.operands]), hb]; exact h'⟩
    · rename_i hb
      obtain ⟨g, h1, h2⟩ := vop_det rfl h
      exact ⟨g, h1, fun d' st' hr he k' h' => by unfold xop; simp only [he x (by simp [Op.operands]), he y (by simp [Op.operands]), hb]; exact h2 d' st' hr he k' h'⟩
  · rename_i n1 n2 n3 n4 n4b n5 n6 n7 n8
    obtain ⟨g, h1, h2⟩ := vop_det hp h
    refine ⟨g, h1, fun d' st' hr he k' h' => ?_⟩
    unfold xop
    split
    · exact absurd rfl (n1 _ _ _)
    · exact absurd rfl (n2 _ _ _)
    · exact absurd rfl (n3 _ _ _ _)
    · exact absurd rfl (n4 _ _ _ _)
    · exact absurd rfl (n4b _ _ _ _ _)
    · exact absurd rfl (n5 _)
    · exact absurd rfl (n6 _ _ _)
    · exact absurd rfl (n7 _ _ _ _)
    · exact absurd rfl (n8 _ _ _ _)
    · exact h2 d' st' hr he k' h'
end Go.Proofs.YtijohhdgecadnaaDoor.Av
