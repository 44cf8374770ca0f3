/- Own maps, and rows that are written out. No condition. -/
import Derived.Test.YtcihkmnolagdlaaDoorAv7d
import Derived.MapKept
namespace Go.Proofs.YtcihkmnolagdlaaDoor.Av
open Go Go.RowKit
set_option linter.unusedVariables false
set_option linter.unusedSimpArgs false
/-- Which written-out rows become own rows (a list of the seat's own: the slot, and how many elements). -/
def bldK : List (Nat × Nat) := [(16, 5)]
def bldB (o : Oper) : Bool :=
  match o.op, o.dst with
  | .buildSlice _ len _, some d => bldK.any fun p => Nat.beq p.1 d && Nat.beq p.2 len
  | _, _ => false
def bldP (P : Program) (d : Nat) (t : TypeId) (len : Nat) (parts : Array (Nat × Operand)) (st : St) (k : G → St → Prop) : Prop :=
  match P.underlying t with
  | some (.slice e) => match zeroCells P e with
    | some zc => bif (P.cellsOf e == 0) || !(Nat.ble (len * P.cellsOf e) 16777216) || !(Nat.blt 0 len && Nat.blt d st.rows.length) then False else
      match buildCells (fun i => some (i * P.cellsOf e, P.cellsOf e)) st (repCells len (P.cellsOf e) zc) parts.toList with
      | some gs => bif gs.all G.closed0 then fLL (chunk len (P.cellsOf e) gs) fun xs => k (.own d 0 len) ((st.freeRow d).setRow d xs) else False
      | none => False
    | none => False
  | _ => False
section
variable {P : Program} {C : Cx} {F : Fd} {st : St} {a : Act} {w : World}
theorem build_run {t e : TypeId} {len : Nat} {parts : Array (Nat × Operand)} {zc gs : List G} (hu : P.underlying t = some (.slice e)) (hz : zeroCells P e = some zc) (hn : 0 < P.cellsOf e) (hle : len * P.cellsOf e ≤ 16777216)
    (hb : buildCells (fun i => some (i * P.cellsOf e, P.cellsOf e)) st (repCells len (P.cellsOf e) zc) parts.toList = some gs) (hcl : ∀ g ∈ gs, g.closed0 = true) (hi : Inv C F st a w) :
    ∃ us : List Value, (Instr.buildSlice t len (parts.map fun (i, x) => (i, a.eval x))).run P w = .ok (.slice (some ⟨w.heap.size, 0, none⟩) len len) (w.alloc (.cells ⟨us⟩ e)) ∧ RepL C w gs us ∧ us.length = len * P.cellsOf e ∧ gs.length = len * P.cellsOf e := by
  obtain ⟨z, h1, h2, h2b, h3, h4⟩ := zeroCells_sound hz w
  obtain ⟨ii, hii⟩ : ∃ ii, P.info? e = some ii := by
    unfold Program.cellsOf at hn
    cases hi0 : P.info? e with
    | none => rw [hi0] at hn; simp at hn
    | some i => exact ⟨i, rfl⟩
  have hzs : z.cells.size = P.cellsOf e := by rw [← Array.length_toList, h2, h2b]
  let vs : List Value := (List.range (len * P.cellsOf e)).map fun i => z.cells[i % z.cells.size]!
  have hvs : ∀ (i : Nat) v, vs[i]? = some v → i < len * P.cellsOf e ∧ z.cells.toList[i % P.cellsOf e]? = some v := fun i v hv => by
    have hlt : i < len * P.cellsOf e := by have := (List.getElem?_eq_some_iff.1 hv).1; simpa [vs] using this
    refine ⟨hlt, ?_⟩
    simp [vs, List.getElem?_map, List.getElem?_range hlt] at hv
    have hm : i % z.cells.size < z.cells.size := Nat.mod_lt _ (by omega)
    rw [getElem!_pos z.cells _ hm] at hv
    rw [← hzs, ← hv]
    simp [Array.getElem_toList]
  have hrl : RepL C w (repCells len (P.cellsOf e) zc) vs := by
    refine ⟨by simp [vs, repCells], fun v hv => ?_, fun i g v hg hv => ?_⟩
    · obtain ⟨i, hi0⟩ := List.mem_iff_getElem?.1 hv
      exact h3 v (List.mem_of_getElem? (hvs i v hi0).2)
    · obtain ⟨hlt, hzv⟩ := hvs i v hv
      simp only [repCells, List.getElem?_map, List.getElem?_range hlt, Option.map_some, Option.some.injEq] at hg
      have hm : i % P.cellsOf e < zc.length := by rw [h2b]; exact Nat.mod_lt _ hn
      rw [List.getD_eq_getElem?_getD, List.getElem?_eq_getElem hm] at hg
      exact (h4 C w (i % P.cellsOf e) g v (by rw [List.getElem?_eq_getElem hm, ← hg]; rfl) hzv).2
  have hrc : ∀ g ∈ repCells len (P.cellsOf e) zc, g.cell = true := fun g hg => by
    simp only [repCells, List.mem_map, List.mem_range] at hg
    obtain ⟨i, _, rfl⟩ := hg
    have hm : i % P.cellsOf e < zc.length := by rw [h2b]; exact Nat.mod_lt _ hn
    have hm2 : i % P.cellsOf e < z.cells.toList.length := by rw [h2]; exact hm
    rw [List.getD_eq_getElem?_getD, List.getElem?_eq_getElem hm]
    exact (h4 C w _ _ _ (List.getElem?_eq_getElem hm) (List.getElem?_eq_getElem hm2)).1
  obtain ⟨us, h5, h6, h7⟩ := fill_sound (fun i => some (i * P.cellsOf e, P.cellsOf e)) hi parts.toList _ gs vs hb hrl hrc
  have hgl : gs.length = len * P.cellsOf e := by
    have fl : ∀ (ps : List (Nat × Operand)) (cs gs : List G), buildCells (fun i => some (i * P.cellsOf e, P.cellsOf e)) st cs ps = some gs → gs.length = cs.length := by
      intro ps
      induction ps with
      | nil => intro cs gs hg; rw [buildCells] at hg; cases hg; rfl
      | cons p ps ih =>
        intro cs gs hg
        obtain ⟨i, x⟩ := p
        rw [buildCells] at hg
        split at hg
        · cases hg
        · split at hg
          · rw [fL_eq] at hg; rw [ih _ _ hg, blit_length]
          · cases hg
    rw [fl _ _ _ hb]; simp [repCells]
  have hul : us.length = len * P.cellsOf e := by rw [h6.1, hgl]
  refine ⟨us, ?_, h6, hul, hgl⟩
  show (Instr.buildSlice t len (parts.map fun (q : Nat × Operand) => (q.1, a.eval q.2))).run P w = _
  simp only [Instr.buildSlice]
  have e1 : parts.map (fun (q : Nat × Operand) => (q.1, a.eval q.2)) = (parts.toList.map (fun (q : Nat × Operand) => (q.1, a.eval q.2))).toArray := by apply Array.toList_inj.1; simp
  simp only [Sem.run_bind, run_underlying hu, Result.andThen_ok, Go.run_sizeOf w hii, Sem.run_ite]
  rw [if_neg (by omega), e1]
  have h5' : Instr.fill (fun i => some (i * P.cellsOf e, P.cellsOf e)) ⟨vs⟩ (parts.toList.map fun (q : Nat × Operand) => (q.1, a.eval q.2)) = some ⟨us⟩ := h5
  have hvsz : ((Array.range (len * P.cellsOf e)).map (fun i => z.cells[i % z.cells.size]!)) = ⟨vs⟩ := by
    apply Array.toList_inj.1; simp [vs]
  by_cases h0 : len * P.cellsOf e = 0
  · rw [if_pos h0]
    have e2 : (Array.range (len * P.cellsOf e)).map (fun x => (#[] : Array Value)[x % (#[] : Array Value).size]!) = ⟨vs⟩ := by
      apply Array.toList_inj.1; simp [vs, h0]
    simp only [Sem.run_pure, Result.andThen_ok]
    rw [e2, h5']
    rfl
  · rw [if_neg h0]
    simp only [Sem.run_bind, h1, Result.andThen_ok, Sem.run_pure]
    rw [hvsz, h5']
    rfl

theorem chunk_get {len n : Nat} {gs : List G} {i : Nat} {r : List G} (h : (chunk len n gs)[i]? = some r) : i < len ∧ r = (gs.drop (i * n)).take n := by
  have hlt : i < len := by have := (List.getElem?_eq_some_iff.1 h).1; simpa [chunk] using this
  simp [chunk, List.getElem?_map, List.getElem?_range hlt] at h
  exact ⟨hlt, h.symm⟩
theorem bld_sound {d : Nat} {t : TypeId} {len : Nat} {parts : Array (Nat × Operand)} {k : G → St → Prop} (h : bldP P d t len parts st k) (hi : Inv C F st a w) :
    ∃ z w', (Instr.buildSlice t len (parts.map fun (i, x) => (i, a.eval x))).run P w = .ok z w' ∧ After F k a z w' := by
  unfold bldP at h
  split at h
  · rename_i e hu
    split at h
    · rename_i zc hz
      cases hq : (P.cellsOf e == 0) || !(Nat.ble (len * P.cellsOf e) 16777216) || !(Nat.blt 0 len && Nat.blt d st.rows.length) with
      | true => rw [hq] at h; exact h.elim
      | false =>
        rw [hq] at h
        simp only [Bool.or_eq_false_iff, beq_eq_false_iff_ne, Bool.not_eq_false', Bool.and_eq_true] at hq
        obtain ⟨⟨q1, q2⟩, q3, q4⟩ := hq
        have hle := Nat.le_of_ble_eq_true q2
        have hn : 0 < P.cellsOf e := Nat.pos_of_ne_zero q1
        have hlen : 0 < len := Nat.le_of_ble_eq_true q3
        have hd : d < st.rows.length := Nat.le_of_ble_eq_true q4
        simp only [cond_false] at h
        split at h
        · rename_i gs hb
          cases hcl : gs.all G.closed0 with
          | false => rw [hcl] at h; exact h.elim
          | true =>
            rw [hcl] at h
            simp only [cond_true, fLL_eq] at h
            simp only [List.all_eq_true] at hcl
            obtain ⟨us, r1, r2, r3, r4⟩ := build_run hu hz hn hle hb hcl hi
            obtain ⟨C1, hI1, hk1, hbx, hex, _, _⟩ := hi.freeRow d
            have hat : ∀ (i : Nat) r, (chunk len (P.cellsOf e) gs)[i]? = some r → ∀ (j : Nat) g, r[j]? = some g → gs[i * P.cellsOf e + j]? = some g := fun i r hr j g hj => by
              obtain ⟨hlt, rfl⟩ := chunk_get hr
              rw [List.getElem?_take] at hj
              split at hj
              · rwa [List.getElem?_drop] at hj
              · cases hj
            have hrl : ∀ (i : Nat) r, (chunk len (P.cellsOf e) gs)[i]? = some r → r.length = P.cellsOf e := fun i r hr => by
              obtain ⟨hlt, rfl⟩ := chunk_get hr
              have : (i + 1) * P.cellsOf e ≤ len * P.cellsOf e := Nat.mul_le_mul_right _ hlt
              rw [Nat.succ_mul] at this
              rw [List.length_take, List.length_drop]; omega
            obtain ⟨C2, hI2, hk2⟩ := hI1.newRow (k := d) hk1 (by rw [freeRow_len]; exact hd) (sz := P.cellsOf e) (n := len) (vs := us) (T := e) (fz := (0, 0)) (xs := chunk len (P.cellsOf e) gs)
              (by rw [r3]; exact Nat.le_refl _) ⟨by simp [chunk]; exact hlen, by simp [chunk]⟩ r2.2.1 (fun o ho => by simp)
              (fun r hr => by
                obtain ⟨i, hi0⟩ := List.mem_iff_getElem?.1 hr
                refine ⟨hrl i r hi0, fun g hg => ?_⟩
                obtain ⟨j, hj⟩ := List.mem_iff_getElem?.1 hg
                exact hcl g (List.mem_of_getElem? (hat i r hi0 j g hj)))
              (fun i r j g v a1 a2 a3 => (r2.2.2 _ g v (hat i r a1 j g a2) a3).keep0 (hcl g (List.mem_of_getElem? (hat i r a1 j g a2))) (Keeps.refl _ _) (fun _ _ hn => by rw [hex]; exact hn))
            refine ⟨_, _, r1, C2, _, _, h, hI2, ?_⟩
            have := Rep.own (C := C2) (w := w.alloc (.cells ⟨us⟩ e)) d 0 len w.heap.size 0 (P.cellsOf e) len ⟨w.heap.size, 0, none⟩ hk2 (by omega) ⟨fun _ => by simp, rfl, rfl⟩ hlen
            simpa using this
        · exact h.elim
    · exact h.elim
  · exact h.elim
/-! Maps. -/
def isAggG : G → Bool
  | .agg _ => true
  | _ => false
def plainG : G → Bool
  | .int .. | .bool _ | .str _ => true
  | _ => false
def keyD : TypeDesc → Bool
  | .int _ | .struct _ => true
  | _ => false
def flOf (dk de : TypeDesc) : Nat := bif aggD dk then (bif aggD de then 3 else 1) else (bif aggD de then 2 else 0)
def mapD (P : Program) (t : TypeId) : Option (TypeId × TypeId × TypeDesc × TypeDesc) :=
  match P.underlying t with
  | some (.map K E) => match P.underlying K, P.underlying E with
    | some dk, some de => some (K, E, dk, de)
    | _, _ => none
  | _ => none
/-- Keys that the model asks for nothing: their parts lie where they should. (Worked out by the kernel.) -/
def keyOk (P : Program) : Nat → TypeId → Nat → Bool
  | 0, _, _ => false
  | d + 1, t, len =>
    match P.underlying t with
    | some (.int _) | some .bool | some .string => true
    | some (.struct fs) => fs.toList.all fun f => match P.underlying f.type with
      | some dd => Nat.ble (f.offset + wide P dd f.type) len && keyOk P d f.type (wide P dd f.type)
      | none => false
    | _ => false
def keyFit (P : Program) (K : TypeId) (dk : TypeDesc) (kn : Nat) (key : G) : Bool :=
  keyD dk && okReg key && Nat.beq key.cells.length kn && Nat.beq kn (wide P dk K) && key.cells.all plainG && (isAggG key == aggD dk)
def valFit (P : Program) (E : TypeId) (de : TypeDesc) (x : G) : Bool :=
  okReg x && Nat.beq x.cells.length (wide P de E) && x.cells.all G.closed0 && (isAggG x == aggD de)
def zAgg (P : Program) (E : TypeId) : Bool :=
  match P.info? E with
  | some i => match i.zero with
    | some (.agg _) => true
    | _ => false
  | none => false
/-- Where a key stands among the entries. -/
def hitI (f : List G → Bool) : List (List G) → Option Nat
  | [] => none
  | r :: rs => bif f r then some 0 else (hitI f rs).map (· + 1)
def mput (f : List G → Bool) (row : List G) (xs : List (List G)) : List (List G) :=
  match hitI f xs with
  | some i => xs.set i row
  | none => xs ++ [row]
def mdel (f : List G → Bool) (xs : List (List G)) : List (List G) :=
  match hitI f xs with
  | some i => xs.eraseIdx i
  | none => xs
/-- What a look at a key tells. -/
def Look (f : List G → Bool) (kn : Nat) (zc : List G) (xs : List (List G)) (v : List G) (b : Bool) : Prop :=
  (∃ (i : Nat) (r : List G), hitI f xs = some i ∧ xs[i]? = some r ∧ v = r.drop kn ∧ b = true) ∨ (hitI f xs = none ∧ v = zc ∧ b = false)
def valP (de : TypeDesc) (v : List G) (k : G → Prop) : Prop :=
  bif aggD de then fL v fun v => k (.agg v) else match v with
    | [g] => k g
    | _ => False
def makeMP (P : Program) (d : Nat) (t : TypeId) (st : St) (k : G → St → Prop) : Prop :=
  match mapD P t with
  | some (K, _, dk, de) => bif Nat.blt d st.rows.length then k (.mp d (wide P dk K) (flOf dk de)) ((st.freeRow d).setRow d []) else False
  | none => False
def lookP (P : Program) (t : TypeId) (st : St) (m key : G) (ok : Bool) (k : G → Prop) : Prop :=
  match mapD P t, m with
  | some (K, E, dk, de), .mp kk kn fl => match st.rows.getD kk none, zeroCells P E with
    | some xs, some zc => bif keyFit P K dk kn key && Nat.beq fl (flOf dk de) && (zAgg P E == aggD de) then
        (eqOk P 12 K = true ∧ keyOk P 12 K kn = true) ∧ ∃ f : List G → Bool, (∀ r ∈ xs, eqT P 12 K key.cells (r.take kn) = some (f r)) ∧ ∃ v b, Look f kn zc xs v b ∧
          valP de v fun g => bif ok then k (.tup [g, .bool b]) else k g
        else False
    | _, _ => False
  | _, _ => False
def updP (P : Program) (t : TypeId) (st : St) (m key x : G) (k : St → Prop) : Prop :=
  match mapD P t, m with
  | some (K, E, dk, de), .mp kk kn fl => match st.rows.getD kk none with
    | some xs => bif keyFit P K dk kn key && Nat.beq fl (flOf dk de) && valFit P E de x then
        (eqOk P 12 K = true ∧ keyOk P 12 K kn = true) ∧ ∃ f : List G → Bool, (∀ r ∈ xs, eqT P 12 K key.cells (r.take kn) = some (f r) ∧ (f r = true → r.take kn = key.cells)) ∧ k (st.setRow kk (mput f (key.cells ++ x.cells) xs))
        else False
    | none => False
  | _, _ => False
def delP (P : Program) (gs : List G) (ts : List TypeId) (st : St) (k : G → St → Prop) : Prop :=
  match gs, ts with
  | [m, key], t :: _ => match mapD P t, m with
    | some (K, E, dk, de), .mp kk kn fl => match st.rows.getD kk none with
      | some xs => bif keyFit P K dk kn key && Nat.beq fl (flOf dk de) then
          (eqOk P 12 K = true ∧ keyOk P 12 K kn = true) ∧ ∃ f : List G → Bool, (∀ r ∈ xs, eqT P 12 K key.cells (r.take kn) = some (f r)) ∧ k (.tup []) (st.setRow kk (mdel f xs))
          else False
      | none => False
    | _, _ => False
  | _, _ => False

theorem plain_closed0 {g : G} (h : plainG g = true) : g.closed0 = true := by cases g <;> first | rfl | (simp [plainG] at h; done)
theorem flOf_bits (dk de : TypeDesc) : (flOf dk de).testBit 0 = aggD dk ∧ (flOf dk de).testBit 1 = aggD de := by
  unfold flOf; cases aggD dk <;> cases aggD de <;> exact ⟨rfl, rfl⟩
theorem mapD_some {t K E : TypeId} {dk de : TypeDesc} (h : mapD P t = some (K, E, dk, de)) : P.underlying t = some (.map K E) ∧ P.underlying K = some dk ∧ P.underlying E = some de := by
  unfold mapD at h
  split at h
  · split at h
    · rename_i K' E' h1 _ _ dk' de' h2 h3; cases h; exact ⟨h1, h2, h3⟩
    · cases h
  · cases h
/-- A value that fits reads as its cells. -/
theorem cellsAs_of {x : G} {u : Value} (hx : Rep C w x u) (h : okReg x = true) : CellsAs C w (isAggG x) x.cells u := by
  by_cases ha : ∃ gs, x = .agg gs
  · obtain ⟨gs, rfl⟩ := ha
    obtain ⟨vs, rfl, h1, _⟩ := hx.agg_inv
    exact .inl ⟨rfl, vs, rfl, h1.1, h1.2.1, h1.2.2⟩
  · have hc : x.cell = true := by
      rcases okReg_cases h with h | h
      · exact h
      · exact absurd h ha
    have h1 : isAggG x = false := by cases x <;> first | rfl | exact absurd ⟨_, rfl⟩ ha
    have h2 : x.cells = [x] := by cases x <;> first | rfl | exact absurd ⟨_, rfl⟩ ha
    rw [h1, h2]
    exact .inr ⟨rfl, x, rfl, hx.oneCell hc, hx⟩
theorem key_eq {K : TypeId} {dk : TypeDesc} (hu : P.underlying K = some dk) (hk : eqOk P 12 K = true) {kc ec : List G} {b : Bool} (he : eqT P 12 K kc ec = some b) {u v : Value} (hx : CellsAs C w (aggD dk) kc u) (hy : CellsAs C w (aggD dk) ec v) :
    (Op.equal K u v).run P w = .ok b w := by
  have main : ∀ us vs : List Value, RepL C w kc us → RepL C w ec vs → (Op.equalIn 10000 K (bif aggD dk then .agg ⟨us⟩ else us.getD 0 undef) (bif aggD dk then .agg ⟨vs⟩ else vs.getD 0 undef)).run P w = .ok b w :=
    fun us vs h1 h2 => eqT_sound 12 K kc ec b us vs dk hk he hu h1 h2 10000 (by decide)
  show (Op.equalIn 10000 K u v).run P w = _
  rcases hx with ⟨ha, us, rfl, h1, h2, h3⟩ | ⟨ha, g, rfl, h1, h2⟩ <;> rcases hy with ⟨ha', vs, rfl, h1', h2', h3'⟩ | ⟨ha', g', rfl, h1', h2'⟩
  · have := main us vs ⟨h1, h2, h3⟩ ⟨h1', h2', h3'⟩; rw [ha] at this; exact this
  · rw [ha] at ha'; cases ha'
  · rw [ha] at ha'; cases ha'
  · have := main [u] [v] ⟨rfl, by simpa using h1, fun i x y hx hy => by
      cases i with
      | succ i => simp at hx
      | zero => simp at hx hy; subst hx; subst hy; exact h2⟩ ⟨rfl, by simpa using h1', fun i x y hx hy => by
      cases i with
      | succ i => simp at hx
      | zero => simp at hx hy; subst hx; subst hy; exact h2'⟩
    rw [ha] at this; exact this
theorem hitI_some {f : List G → Bool} : ∀ {xs : List (List G)} {i : Nat}, hitI f xs = some i → ∃ r, xs[i]? = some r ∧ f r = true
  | [], i, h => by cases h
  | r :: rs, i, h => by
    unfold hitI at h
    cases hf : f r with
    | true => rw [hf] at h; cases h; exact ⟨r, rfl, hf⟩
    | false =>
      rw [hf] at h
      obtain ⟨j, hj, rfl⟩ := Option.map_eq_some_iff.1 h
      obtain ⟨q, h1, h2⟩ := hitI_some hj
      exact ⟨q, by simpa using h1, h2⟩
theorem run_findAsking {K : TypeId} {key : Value} {f : List G → Bool} : ∀ (es : List MapEntry) (xs : List (List G)) (n : Nat), es.length = xs.length →
    (∀ (i : Nat) e r, es[i]? = some e → xs[i]? = some r → (Op.equal K key e.key).run P w = .ok (f r) w) →
    (Instr.findAsking K key es n).run P w = .ok ((hitI f xs).bind fun i => (es[i]?).map fun e => (n + i, e.val)) w
  | [], [], n, _, _ => rfl
  | e :: es, r :: rs, n, hl, h => by
    have ih := run_findAsking es rs (n + 1) (by simpa using hl) (fun i e r h1 h2 => h (i + 1) e r (by simpa using h1) (by simpa using h2))
    unfold Instr.findAsking hitI
    rw [Sem.run_bind, h 0 e r rfl rfl, Result.andThen_ok]
    cases hf : f r with
    | true => simp
    | false =>
      simp only [Bool.false_eq_true, if_false, cond_false]
      rw [ih]
      cases hq : hitI f rs with
      | none => rfl
      | some j => simp [Nat.add_assoc, Nat.add_comm 1 j]
theorem findNow_int {q : IntKind} {kd : IntKind} {m : Int} {f : List G → Bool} : ∀ (es : List MapEntry) (xs : List (List G)) (n : Nat), es.length = xs.length →
    (∀ (i : Nat) e r, es[i]? = some e → xs[i]? = some r → ∃ z : Int, e.key = .int kd z ∧ f r = (m == z)) →
    Instr.findNow (.int q) (.int kd m) es n = some ((hitI f xs).bind fun i => (es[i]?).map fun e => (n + i, e.val))
  | [], [], n, _, _ => rfl
  | e :: es, r :: rs, n, hl, h => by
    have ih := findNow_int (q := q) (kd := kd) (m := m) es rs (n + 1) (by simpa using hl) (fun i e r h1 h2 => h (i + 1) e r (by simpa using h1) (by simpa using h2))
    obtain ⟨z, h1, h2⟩ := h 0 e r rfl rfl
    unfold Instr.findNow hitI
    rw [h1, h2]
    simp only [Instr.sameNow, if_true]
    cases hf : (m == z) with
    | true => simp
    | false =>
      simp only [cond_false]
      rw [ih]
      cases hq : hitI f rs with
      | none => rfl
      | some j => simp [Nat.add_assoc, Nat.add_comm 1 j]
theorem run_findKey {K : TypeId} {dk : TypeDesc} (hu : P.underlying K = some dk) (hk : eqOk P 12 K = true) (hd : keyD dk = true) {kc : List G} {key : Value} (hx : CellsAs C w (aggD dk) kc key) {f : List G → Bool} {es : List MapEntry} {xs : List (List G)} {kn : Nat}
    (hl : es.length = xs.length) (hE : ∀ (i : Nat) e r, es[i]? = some e → xs[i]? = some r → CellsAs C w (aggD dk) (r.take kn) e.key) (hf : ∀ r ∈ xs, eqT P 12 K kc (r.take kn) = some (f r)) :
    (Instr.findKey K key es).run P w = .ok ((hitI f xs).bind fun i => (es[i]?).map fun e => (i, e.val)) w := by
  have ask := run_findAsking (P := P) (w := w) (K := K) (key := key) (f := f) es xs 0 hl (fun i e r h1 h2 => key_eq hu hk (hf r (List.mem_of_getElem? h2)) hx (hE i e r h1 h2))
  simp only [Nat.zero_add] at ask
  unfold Instr.findKey
  rw [Sem.run_bind, run_underlying hu, Result.andThen_ok]
  cases dk with
  | struct fs =>
    cases es with
    | nil =>
      cases xs with
      | nil => rfl
      | cons _ _ => simp at hl
    | cons e es => simp only [Instr.findNow, Instr.sameNow]; exact ask
  | int q =>
    have hk2 := hk
    rcases hx with ⟨ha, _⟩ | ⟨ha, g, rfl, h1, h2⟩
    · cases ha
    · cases es with
      | nil =>
        cases xs with
        | nil => rfl
        | cons _ _ => simp at hl
      | cons e0 es0 =>
        have two : ∀ (i : Nat) e r, (e0 :: es0)[i]? = some e → xs[i]? = some r → ∃ (kd : IntKind) (m z : Int), g = .int kd m ∧ e.key = .int kd z ∧ f r = (m == z) := fun i e r h3 h4 => by
          have he := hf r (List.mem_of_getElem? h4)
          have hq := hE i e r h3 h4
          rcases hq with ⟨ha', _⟩ | ⟨_, g', hg', _, h5⟩
          · cases ha'
          · rw [hg'] at he
            simp only [eqT, hu] at he
            split at he
            · rename_i kd m kd' z e1 e2
              cases e1; cases e2
              split at he
              · rename_i e3; subst e3
                exact ⟨kd, m, z, rfl, h5.int_inv, (Option.some.inj he).symm⟩
              · cases he
            · cases he
        have hx0 : ∃ r0, xs[0]? = some r0 := by
          cases xs with
          | nil => simp at hl
          | cons r _ => exact ⟨r, rfl⟩
        obtain ⟨r0, hr0⟩ := hx0
        obtain ⟨kd, m, z0, hg, _, _⟩ := two 0 e0 r0 rfl hr0
        subst hg
        obtain rfl := h2.int_inv
        rw [findNow_int (q := q) (kd := kd) (m := m) (f := f) (e0 :: es0) xs 0 hl (fun i e r h3 h4 => by
          obtain ⟨kd', m', z, h5, h6, h7⟩ := two i e r h3 h4
          cases h5; exact ⟨z, h6, h7⟩)]
        simp
  | _ => simp [keyD] at hd
/-! What a map's key is asked. -/
theorem run_checkKey1 (b : Bool) : ∀ (d n : Nat) (t : TypeId) (dd : TypeDesc) (u : Value) (gs : List G), d ≤ n → eqOk P d t = true → keyOk P d t gs.length = true → P.underlying t = some dd → CellsAs C w (aggD dd) gs u →
    (Instr.checkKey b n t u).run P w = .ok () w
  | 0, n, t, dd, u, gs, hn, he, hk, hu, hc => by simp [eqOk] at he
  | d + 1, 0, t, dd, u, gs, hn, he, hk, hu, hc => by omega
  | d + 1, n + 1, t, dd, u, gs, hn, he, hk, hu, hc => by
    unfold eqOk at he
    unfold keyOk at hk
    rw [hu] at he hk
    unfold Instr.checkKey
    rw [Sem.run_bind, run_underlying hu, Result.andThen_ok]
    cases dd with
    | int q => rfl
    | bool => rfl
    | string => rfl
    | struct fs =>
      rcases hc with ⟨_, us, rfl, h1, h2, h3⟩ | ⟨ha, _⟩
      · simp only [Bool.and_eq_true, Bool.not_eq_true', List.all_eq_true] at he hk
        have hfs : ∀ f ∈ fs.toList, f.name ≠ "_" ∧ ∃ v, (part f.type ⟨us⟩ f.offset).run P w = .ok v w ∧ (Instr.checkKey b n f.type v).run P w = .ok () w := fun f hf => by
          obtain ⟨e1, e2⟩ := he.2 f hf
          have e3 := hk f hf
          split at e3
          · rename_i dd' hu'
            obtain ⟨e4, e5⟩ := by simpa only [Bool.and_eq_true] using e3
            have e4 := Nat.le_of_ble_eq_true e4
            have hpart := run_part_of hu' (vs := us) (o := f.offset) (by rw [h1]; exact e4) w
            refine ⟨by simpa using e1, _, hpart, ?_⟩
            have hr : RepL C w gs us := ⟨h1, h2, h3⟩
            have hp := hr.part f.offset (wide P dd' f.type)
            have hlen : ((gs.drop f.offset).take (wide P dd' f.type)).length = wide P dd' f.type := by rw [List.length_take, List.length_drop]; omega
            refine run_checkKey1 b d n f.type dd' _ ((gs.drop f.offset).take (wide P dd' f.type)) (by omega) e2 (by rw [hlen]; exact e5) hu' ?_
            cases hq : aggD dd' with
            | true =>
              unfold wide at hp; rw [hq] at hp; simp only [cond_true] at hp
              simp only [cond_true, wide, hq]
              exact .inl ⟨rfl, _, rfl, hp.1, hp.2.1, hp.2.2⟩
            | false =>
              unfold wide at hp hlen; rw [hq] at hp hlen; simp only [cond_false] at hp hlen
              simp only [cond_false, wide, hq]
              obtain ⟨g, hg⟩ : ∃ g, (gs.drop f.offset).take 1 = [g] := by
                match hm : (gs.drop f.offset).take 1, hlen with
                | [g], _ => exact ⟨g, rfl⟩
              rw [hg] at hp ⊢
              obtain ⟨v, hv, hv2⟩ := hp.one
              have hv0 : us.getD f.offset undef = v := by
                have := congrArg (fun l => l[0]?) hv
                simp only [List.getElem?_take, List.getElem?_drop, Nat.add_zero] at this
                rw [List.getD_eq_getElem?_getD]
                simpa using congrArg (fun o => o.getD undef) this
              rw [hv0]
              exact .inr ⟨rfl, g, rfl, hp.2.1 v (by rw [hv]; simp), hv2⟩
          · cases e3
        simp only
        rw [← Array.forIn_toList]
        clear he hk
        generalize fs.toList = L at hfs
        induction L with
        | nil => simp
        | cons f L ih =>
          obtain ⟨q1, v, q2, q3⟩ := hfs f (by simp)
          simp only [List.forIn_cons, Sem.run_bind, q1, ne_eq, not_false_eq_true, if_true, q2, q3, Result.andThen_ok, Sem.run_pure]
          have := ih (fun f hf => hfs f (by simp [hf]))
          simpa only [Sem.run_bind, ne_eq, Sem.run_pure] using this
      · cases ha
    | _ => simp at he
theorem run_checkKey2 {K : TypeId} {dk : TypeDesc} (hu : P.underlying K = some dk) {kc : List G} (he : eqOk P 12 K = true) (hk : keyOk P 12 K kc.length = true) {u : Value} (hc : CellsAs C w (aggD dk) kc u) (b : Bool) : (Instr.checkKey b 10000 K u).run P w = .ok () w :=
  run_checkKey1 b 12 10000 K dk u kc (by decide) he hk hu hc
/-! Plain cells tell the value. -/
theorem plain_same {g : G} (h : plainG g = true) {u v : Value} (hx : Rep C w g u) (hy : Rep C w g v) : u = v := by
  cases g with
  | int k n => rw [hx.int_inv, hy.int_inv]
  | bool b => rw [hx.bool_inv, hy.bool_inv]
  | str s => rw [hx.str_inv, hy.str_inv]
  | _ => simp [plainG] at h
theorem cells_same {ag : Bool} {gs : List G} (h : ∀ g ∈ gs, plainG g = true) {u v : Value} (hx : CellsAs C w ag gs u) (hy : CellsAs C w ag gs v) : u = v := by
  rcases hx with ⟨ha, us, rfl, h1, h2, h3⟩ | ⟨ha, g, rfl, h1, h2⟩ <;> rcases hy with ⟨ha', vs, rfl, h1', h2', h3'⟩ | ⟨ha', g', hg, h1', h2'⟩
  · congr 2
    refine List.ext_getElem? fun i => ?_
    by_cases hi : i < gs.length
    · rw [List.getElem?_eq_getElem (by omega), List.getElem?_eq_getElem (by omega)]
      exact congrArg some (plain_same (h _ (List.getElem_mem hi)) (h3 i _ _ (List.getElem?_eq_getElem hi) (List.getElem?_eq_getElem (by omega))) (h3' i _ _ (List.getElem?_eq_getElem hi) (List.getElem?_eq_getElem (by omega))))
    · rw [List.getElem?_eq_none (by omega), List.getElem?_eq_none (by omega)]
  · rw [ha] at ha'; cases ha'
  · rw [ha] at ha'; cases ha'
  · simp only [List.cons.injEq, and_true] at hg; subst hg
    exact plain_same (h g (by simp)) h2 h2'
theorem sameBits_plain {g : G} (h : plainG g = true) {u : Value} (hx : Rep C w g u) (n : Nat) : Instr.sameBits n u u = true := by
  cases g with
  | int k m => rw [hx.int_inv]; cases n <;> simp [Instr.sameBits]
  | bool b => rw [hx.bool_inv]; cases n <;> simp [Instr.sameBits]
  | str s => rw [hx.str_inv]; cases n <;> simp [Instr.sameBits, MapKept.bytes_beq]
  | _ => simp [plainG] at h
theorem sameBits_cells {ag : Bool} {gs : List G} (h : ∀ g ∈ gs, plainG g = true) {u : Value} (hx : CellsAs C w ag gs u) : Instr.sameBits 10000 u u = true := by
  rcases hx with ⟨ha, us, rfl, h1, h2, h3⟩ | ⟨ha, g, rfl, h1, h2⟩
  · show Instr.sameBits (9999 + 1) _ _ = true
    simp only [Instr.sameBits, beq_self_eq_true, Bool.true_and, List.all_eq_true]
    intro p hp
    obtain ⟨i, hi⟩ := List.mem_iff_getElem?.1 hp
    rw [List.getElem?_zip_eq_some] at hi
    have he : p.1 = p.2 := Option.some.inj (hi.1.symm.trans hi.2)
    have hl : i < us.length := (List.getElem?_eq_some_iff.1 hi.1).1
    have hg : gs[i]? = some (gs[i]'(by omega)) := List.getElem?_eq_getElem (by omega)
    have := sameBits_plain (h _ (List.mem_of_getElem? hg)) (h3 i _ _ hg hi.1) 9999
    rw [← he]; exact this
  · exact sameBits_plain (h g (by simp)) h2 10000
/-! A map's object, laid and turned. -/
/-- Only this block has turned: a map. -/
structure OnlyM (w w' : World) (B : Nat) (es : Array MapEntry) (clock : Nat) : Prop where
  os : w'.os = w.os
  tape : w'.tape = w.tape
  output : w'.output = w.output
  size : w'.heap.size = w.heap.size
  here : w'.heap[B]? = some (.map es clock)
  block : ∀ k, k ≠ B → w'.heap[k]? = w.heap[k]?
  was : ∃ es0 c0, w.heap[B]? = some (.map es0 c0)
theorem OnlyM.ty {w w' : World} {B : Nat} {es : Array MapEntry} {clock : Nat} (h : OnlyM w w' B es clock) (B' : Nat) (vs' : Array Value) (T' : TypeId) (fz' : Nat × Nat) (hB : w.heap[B']? = some (.cells vs' T' fz')) :
    ∃ vs2 fz2, w'.heap[B']? = some (.cells vs2 T' fz2) ∧ vs2.size = vs'.size := by
  have hne : B' ≠ B := fun e => by
    obtain ⟨es0, c0, h0⟩ := h.was
    subst e; rw [hB] at h0; cases h0
  exact ⟨vs', fz', by rw [h.block B' hne]; exact hB, rfl⟩
theorem OnlyM.keeps {w w' : World} {B : Nat} {es : Array MapEntry} {clock : Nat} (h : OnlyM w w' B es clock) {ex : Nat → Prop} (he : ex B) : Keeps ex w w' :=
  ⟨by rw [h.size]; exact Nat.le_refl _, fun k _ hn => h.block k (fun e => hn (e ▸ he)), h.ty⟩
theorem OnlyM.fr {t0 : Nat → Prop} {w0 w w' : World} {B : Nat} {es : Array MapEntry} {clock : Nat} (h : OnlyM w w' B es clock) (hf : Fr t0 w0 w) (hB : t0 B ∨ w0.heap.size ≤ B) : Fr t0 w0 w' :=
  ⟨h.os.trans hf.os, h.tape.trans hf.tape, h.output.trans hf.output, by rw [h.size]; exact hf.size, fun k hk hn => by
    have hne : k ≠ B := fun e => by
      subst e
      rcases hB with hB | hB
      · exact hn hB
      · omega
    rw [h.block k hne]; exact hf.block k hk hn, fun B' vs T fz hB' => by
      obtain ⟨v1, f1, g1, g2⟩ := hf.ty _ _ _ _ hB'
      obtain ⟨v2, f2, g3, g4⟩ := h.ty _ _ _ _ g1
      exact ⟨v2, f2, g3, g4.trans g2⟩⟩
theorem setMap_only {w : World} {B : Nat} {es0 : Array MapEntry} {c0 : Nat} (hb : w.heap[B]? = some (.map es0 c0)) (es : Array MapEntry) (clock : Nat) :
    (setObj B (.map es clock)).run P w = .ok () { w with heap := w.heap.setIfInBounds B (.map es clock) } ∧ OnlyM w { w with heap := w.heap.setIfInBounds B (.map es clock) } B es clock := by
  have hlt : B < w.heap.size := (Array.getElem?_eq_some_iff.1 hb).1
  refine ⟨MapKept.run_setObj_map _ hb, rfl, rfl, rfl, by simp, ?_, fun k hk => ?_, es0, c0, hb⟩
  · show (w.heap.setIfInBounds B (.map es clock))[B]? = _
    rw [Array.getElem?_setIfInBounds_self_of_lt hlt]
  · show (w.heap.setIfInBounds B (.map es clock))[k]? = _
    rw [Array.getElem?_setIfInBounds_ne (fun e => hk e.symm)]
/-- What an entry reads as. -/
def EntAs (C : Cx) (w : World) (kn fl : Nat) (e : MapEntry) (r : List G) : Prop :=
  (∀ g ∈ r, g.closed0 = true) ∧ kn ≤ r.length ∧ CellsAs C w (fl.testBit 0) (r.take kn) e.key ∧ CellsAs C w (fl.testBit 1) (r.drop kn) e.val
theorem EntAs.keep {C C' : Cx} {w w' : World} {kn fl : Nat} {e : MapEntry} {r : List G} (h : EntAs C w kn fl e r) (hk : ∀ g u, g.closed0 = true → Rep C w g u → Rep C' w' g u) : EntAs C' w' kn fl e r :=
  ⟨h.1, h.2.1, h.2.2.1.mono fun g hg u hu => hk g u (h.1 g (List.mem_of_mem_take hg)) hu, h.2.2.2.mono fun g hg u hu => hk g u (h.1 g (List.mem_of_mem_drop hg)) hu⟩
/-- An own map turns. -/
theorem Inv.mapTo {k : Nat} {xs xs' : List (List G)} {w' : World} (h : Inv C F st a w) (hxs : st.rows[k]? = some (some xs)) {B kn fl : Nat} {es : Array MapEntry} {clock : Nat} (k1 : C.row k = some (some (B, kn, fl, 0)))
    (hl : es.toList.length = xs'.length) (hE : ∀ (i : Nat) e r, es.toList[i]? = some e → xs'[i]? = some r → EntAs C w kn fl e r) (ho : OnlyM w w' B es clock) : Inv C F (st.setRow k xs') a w' := by
  have he : C.ex B := h.mem.ltR k1
  have hk := ho.keeps he
  have keep : ∀ g v, Rep C w g v → Rep C w' g v := fun g v hg => hg.keep hk (fun _ _ h => h) (fun _ _ h => h) (fun _ _ h => h)
  have hkl : k < st.rows.length := (List.getElem?_eq_some_iff.1 hxs).1
  refine ⟨h.nd, h.sz, fun j g v hg hv => keep g v (h.slots j g v hg hv), ⟨fun x cs' hx => ?_, fun x ys hx' => ?_, h.mem.domB, fun x X hx' => ?_, h.mem.bb, h.mem.rr, h.mem.br, fun X hX => by rw [ho.size]; exact h.mem.lt X hX⟩, ho.fr h.fr (h.tr k B kn fl 0 k1), h.ex0, h.exn, h.t0, h.tb, h.tr, h.fb⟩
  · obtain ⟨X, vs', T', q1, q2, q3, q4, q5, q6⟩ := h.mem.box x cs' hx
    have hne : X ≠ B := fun e' => h.mem.br x k B kn fl 0 (by rw [← e']; exact q1) k1
    exact ⟨X, vs', T', q1, q2, by rw [ho.block X hne]; exact q3, q4, q5, fun j g v hg hv => ⟨(q6 j g v hg hv).1, keep _ _ (q6 j g v hg hv).2⟩⟩
  · by_cases e : x = k
    · subst e
      simp only [St.setRow, List.getElem?_set_self hkl, Option.some.injEq] at hx'
      subst hx'
      exact .inr (.inr ⟨B, kn, fl, es, clock, k1, he, ho.here, hl, fun i e r h1 h2 => (hE i e r h1 h2).keep fun g u _ hu => keep g u hu⟩)
    · simp only [St.setRow, List.getElem?_set_ne (fun e' => e e'.symm)] at hx'
      rcases h.mem.row x ys hx' with q1 | ⟨X, s', sz', n', vs', T', fz', q1, q2, q3, q4, q5, q6, q6b, q7, q8⟩ | km
      · exact .inl q1
      · have hne : X ≠ B := fun e' => e (h.mem.rr x k X s' sz' n' kn fl 0 q1 (by rw [e']; exact k1))
        exact .inr (.inl ⟨X, s', sz', n', vs', T', fz', q1, q2, by rw [ho.block X hne]; exact q3, q4, q5, q6, q6b, q7, fun i r j g v a1 a2 a3 => keep _ _ (q8 i r j g v a1 a2 a3)⟩)
      · exact .inr (.inr (km.move (fun q h => h) (fun _ _ _ h => h) (fun X q hq => ho.block X (fun e' => e (h.mem.rr x k X _ _ _ kn fl 0 hq (by rw [e']; exact k1)))) (fun g u _ hu => keep _ _ hu)))
  · by_cases e : x = k
    · subst e; exact ⟨_, by simp only [St.setRow]; exact List.getElem?_set_self hkl⟩
    · obtain ⟨ys, hys⟩ := h.mem.domR x X hx'
      exact ⟨ys, by simp only [St.setRow, List.getElem?_set_ne (fun e' => e e'.symm)]; exact hys⟩
/-- A map without entries, made: row k. -/
theorem Inv.newMap {k kn fl : Nat} (h0 : Inv C F st a w) (hk : C.row k = none) (hlt : k < st.rows.length) : ∃ C', Inv C' F (st.setRow k []) a (w.alloc (.map #[] 0)) ∧ C'.row k = some (some (w.heap.size, kn, fl, 0)) := by
  have h := h0.own_alloc (.map #[] 0)
  let C1 : Cx := { C with ex := fun B => C.ex B ∨ B = w.heap.size }
  let C' : Cx := { C1 with row := fun x => if x = k then some (some (w.heap.size, kn, fl, 0)) else C.row x }
  have hb : ∀ b B, C.box b = some B → B < w.heap.size := fun b B hb => h0.mem.lt _ (h0.mem.ltB hb)
  have hr : ∀ k B s sz n, C.row k = some (some (B, s, sz, n)) → B < w.heap.size := fun k B s sz n hk => h0.mem.lt _ (h0.mem.ltR hk)
  have hrow : ∀ x r, C'.row x = some r → (x = k ∧ r = some (w.heap.size, kn, fl, 0)) ∨ (x ≠ k ∧ C.row x = some r) := fun x r hx => by
    have hx' : (if x = k then some (some (w.heap.size, kn, fl, 0)) else C.row x) = some r := hx
    split at hx'
    · cases hx'; exact .inl ⟨by assumption, rfl⟩
    · exact .inr ⟨by assumption, hx'⟩
  have keep : ∀ g v, Rep C1 (w.alloc (.map #[] 0)) g v → Rep C' (w.alloc (.map #[] 0)) g v := fun g v hg => hg.keep (Keeps.refl _ _) (fun _ _ h => h) (fun _ _ h => h) (fun x r hx => by
    show (if x = k then _ else _) = _
    rw [if_neg (fun e => by subst e; rw [show C1.row = C.row from rfl, hk] at hx; cases hx)]; exact hx)
  have hself : C'.row k = some (some (w.heap.size, kn, fl, 0)) := by show (if k = k then _ else _) = _; rw [if_pos rfl]
  refine ⟨C', ⟨h.nd, h.sz, fun i g v hg hv => keep g v (h.slots i g v hg hv), ⟨fun b cs hb' => ?_, fun x ys hx' => ?_, h.mem.domB, fun x r hx' => ?_, h.mem.bb, fun x x' X s1 z1 n1 s2 z2 n2 e1 e2 => ?_, fun b x X s1 z1 n1 e1 e2 => ?_, h.mem.lt⟩, h.fr, h.ex0, h.exn, h.t0, h.tb, fun x X s1 z1 n1 e1 => ?_, h.fb⟩, hself⟩
  · obtain ⟨X, vs', T', k1, k2, k3, k4, k5, k6⟩ := h.mem.box b cs hb'
    exact ⟨X, vs', T', k1, k2, k3, k4, k5, fun i g v hg hv => ⟨(k6 i g v hg hv).1, keep _ _ (k6 i g v hg hv).2⟩⟩
  · by_cases e : x = k
    · subst e
      simp only [St.setRow, List.getElem?_set_self hlt, Option.some.injEq] at hx'
      subst hx'
      exact .inr (.inr ⟨w.heap.size, kn, fl, #[], 0, hself, .inr rfl, heap_alloc_new w _, rfl, fun i e r h1 => by simp at h1⟩)
    · simp only [St.setRow, List.getElem?_set_ne (fun e' => e e'.symm)] at hx'
      have hrx : C'.row x = C.row x := by show (if x = k then _ else _) = _; rw [if_neg e]
      rcases h.mem.row x ys hx' with k1 | ⟨X, s', sz', n', vs', T', fz', k1, k2, k3, k4, k5, k6, k6b, k7, k8⟩ | km
      · exact .inl ⟨hrx.trans k1.1, k1.2⟩
      · exact .inr (.inl ⟨X, s', sz', n', vs', T', fz', hrx.trans k1, k2, k3, k4, k5, k6, k6b, k7, fun i r j g v a1 a2 a3 => keep _ _ (k8 i r j g v a1 a2 a3)⟩)
      · exact .inr (.inr (km.move (fun q h => hrx.trans h) (fun _ _ _ h => h) (fun _ _ _ => rfl) (fun g u _ hu => keep _ _ hu)))
  · rcases hrow x r hx' with ⟨rfl, rfl⟩ | ⟨e, h2⟩
    · exact ⟨[], by simp only [St.setRow]; exact List.getElem?_set_self hlt⟩
    · obtain ⟨ys, hys⟩ := h.mem.domR x r h2
      exact ⟨ys, by simp only [St.setRow, List.getElem?_set_ne (fun e' => e e'.symm)]; exact hys⟩
  · rcases hrow x _ e1 with ⟨rfl, q⟩ | ⟨e, p1⟩ <;> rcases hrow x' _ e2 with ⟨rfl, q'⟩ | ⟨e', p2⟩
    · rfl
    · cases q; exact absurd (hr _ _ _ _ _ p2) (by omega)
    · cases q'; exact absurd (hr _ _ _ _ _ p1) (by omega)
    · exact h0.mem.rr x x' X s1 z1 n1 s2 z2 n2 p1 p2
  · rcases hrow x _ e2 with ⟨rfl, q⟩ | ⟨e, p⟩
    · cases q; exact absurd (hb b _ e1) (by omega)
    · exact h0.mem.br b x X s1 z1 n1 e1 p
  · rcases hrow x _ e1 with ⟨rfl, q⟩ | ⟨e, p⟩
    · cases q; exact .inr h0.fr.size
    · exact h.tr x X s1 z1 n1 p
theorem mp_inv {kk kn fl : Nat} {u : Value} {xs : List (List G)} (hi : Inv C F st a w) (hx : Rep C w (.mp kk kn fl) u) (hxs : st.rows.getD kk none = some xs) :
    ∃ B es clock, u = .map (some B) ∧ C.row kk = some (some (B, kn, fl, 0)) ∧ w.heap[B]? = some (.map es clock) ∧ es.toList.length = xs.length ∧ ∀ (i : Nat) e r, es.toList[i]? = some e → xs[i]? = some r → EntAs C w kn fl e r := by
  cases hx with
  | mp _ _ _ B hr =>
    rcases hi.mem.row kk xs (rowsOf hxs) with ⟨k1, _⟩ | ⟨B', s', sz', n', vs, T, fz, k1, _, _, _, k5, _⟩ | ⟨B', kn', fl', es, clock, k1, _, k3, k4, k5⟩
    · rw [hr] at k1; cases k1
    · rw [hr] at k1; cases k1; omega
    · rw [hr] at k1; cases k1; exact ⟨B, es, clock, rfl, hr, k3, k4, k5⟩
theorem keyFit_iff {K : TypeId} {dk : TypeDesc} {kn : Nat} {key : G} (h : keyFit P K dk kn key = true) : keyD dk = true ∧ okReg key = true ∧ key.cells.length = kn ∧ kn = wide P dk K ∧ (∀ g ∈ key.cells, plainG g = true) ∧ isAggG key = aggD dk := by
  simp only [keyFit, Bool.and_eq_true, List.all_eq_true, beq_iff_eq] at h
  obtain ⟨⟨⟨⟨⟨h1, h2⟩, h3⟩, h4⟩, h5⟩, h6⟩ := h
  exact ⟨h1, h2, Nat.eq_of_beq_eq_true h3, Nat.eq_of_beq_eq_true h4, h5, h6⟩
theorem valFit_iff {E : TypeId} {de : TypeDesc} {x : G} (h : valFit P E de x = true) : okReg x = true ∧ (∀ g ∈ x.cells, g.closed0 = true) ∧ isAggG x = aggD de := by
  simp only [valFit, Bool.and_eq_true, List.all_eq_true, beq_iff_eq] at h
  obtain ⟨⟨⟨h1, _⟩, h3⟩, h4⟩ := h
  exact ⟨h1, h3, h4⟩
theorem zero_as {E : TypeId} {zc : List G} (h : zeroCells P E = some zc) : ∃ z, (zeroValue E).run P w = .ok z w ∧ CellsAs C w (zAgg P E) zc z := by
  have h' := h
  unfold zeroCells at h'
  split at h'
  · rename_i i hi
    split at h'
    · rename_i z hz
      have hrun : (zeroValue E).run P w = .ok z w := by
        unfold zeroValue
        rw [Sem.run_bind, Go.run_typeInfo w hi, Result.andThen_ok, hz]; rfl
      split at h'
      · rename_i hc
        obtain rfl := Option.some.inj h'
        simp only [Bool.and_eq_true, List.all_eq_true, beq_iff_eq] at hc
        refine ⟨z, hrun, ?_⟩
        by_cases ha : ∃ vs, z = .agg vs
        · obtain ⟨⟨vs⟩, rfl⟩ := ha
          have e : zAgg P E = true := by simp [zAgg, hi, hz]
          rw [e]
          exact .inl ⟨rfl, vs, rfl, by simp [Value.cells], fun u hu => hc.1 u (by simpa [Value.cells] using hu), fun j g u hg hu => by
            simp only [Value.cells, List.getElem?_map, hu, Option.map_some, Option.some.injEq] at hg
            subst hg
            exact (zG_rep C w (hc.1 u (by simpa [Value.cells] using List.mem_of_getElem? hu))).2⟩
        · have e : zAgg P E = false := by
            cases z <;> first | (exact absurd ⟨_, rfl⟩ ha) | simp [zAgg, hi, hz]
          have e2 : z.cells = #[z] := by cases z <;> first | rfl | exact absurd ⟨_, rfl⟩ ha
          rw [e, e2]
          have h1 := hc.1 z (by rw [e2]; simp)
          exact .inr ⟨rfl, zG z, by simp, h1, (zG_rep C w h1).2⟩
      · cases h'
    · cases h'
  · cases h'
theorem valP_rep {de : TypeDesc} {v : List G} {k : G → Prop} (h : valP de v k) {u : Value} (hc : CellsAs C w (aggD de) v u) (hcl : ∀ g ∈ v, g.cell = true) : ∃ g, k g ∧ Rep C w g u := by
  unfold valP at h
  rcases hc with ⟨ha, us, rfl, h1, h2, h3⟩ | ⟨ha, g, rfl, h1, h2⟩
  · rw [ha] at h
    simp only [cond_true, fL_eq] at h
    exact ⟨_, h, .agg v us h1 hcl h2 h3⟩
  · rw [ha] at h
    exact ⟨g, h, h2⟩
theorem look_sound {t : TypeId} {m key : G} {ok : Bool} {k : G → Prop} (h : lookP P t st m key ok k) (hi : Inv C F st a w) {u v : Value} (hm : Rep C w m u) (hkey : Rep C w key v) :
    ∃ g z, k g ∧ (Instr.lookup t u v ok).run P w = .ok z w ∧ Rep C w g z := by
  unfold lookP at h
  split at h
  · rename_i K E dk de kk kn fl hd
    obtain ⟨d1, d2, d3⟩ := mapD_some hd
    split at h
    · rename_i xs zc hxs hzc
      cases hq : keyFit P K dk kn key && Nat.beq fl (flOf dk de) && (zAgg P E == aggD de) with
      | false => rw [hq] at h; exact h.elim
      | true =>
        rw [hq] at h
        simp only [Bool.and_eq_true, beq_iff_eq] at hq
        obtain ⟨⟨q1, q2⟩, q3⟩ := hq
        obtain ⟨f1, f2, f3, f4, f5, f6⟩ := keyFit_iff q1
        have q2 := Nat.eq_of_beq_eq_true q2
        obtain ⟨⟨o1, o2⟩, f, hf, vv, b, hl, h⟩ := h
        obtain ⟨B, es, clock, rfl, k1, k3, k4, k5⟩ := mp_inv hi hm hxs
        subst q2
        obtain ⟨b1, b2⟩ := flOf_bits dk de
        have hk := cellsAs_of hkey f2
        rw [f6] at hk
        have hck := run_checkKey2 (C := C) (w := w) d2 o1 (by rw [f3]; exact o2) hk es.isEmpty
        have hfk := run_findKey (C := C) (w := w) d2 o1 f1 hk k4 (fun i e r h1 h2 => by have := (k5 i e r h1 h2).2.2.1; rwa [b1] at this) hf
        have found : ∀ (i : Nat) (e : MapEntry), hitI f xs = some i → es.toList[i]? = some e → (Instr.lookup t (.map (some B)) v ok).run P w = .ok (if ok then .tuple #[e.val, .bool true] else e.val) w := fun i e h1 h2 => by
          unfold Instr.lookup
          simp only [Sem.run_bind, run_underlying d1, Result.andThen_ok, MapKept.run_getObj_map k3, Sem.run_pure, hck, hfk, h1, h2, Option.bind_some, Option.map_some]
        have missed : ∀ z, hitI f xs = none → (zeroValue E).run P w = .ok z w → (Instr.lookup t (.map (some B)) v ok).run P w = .ok (if ok then .tuple #[z, .bool false] else z) w := fun z h1 h2 => by
          unfold Instr.lookup
          simp only [Sem.run_bind, run_underlying d1, Result.andThen_ok, MapKept.run_getObj_map k3, Sem.run_pure, hck, hfk, h1, h2, Option.bind_none]
        rcases hl with ⟨i, r, l1, l2, l3, l4⟩ | ⟨l1, l2, l3⟩
        · subst l3; subst l4
          obtain ⟨e, he⟩ : ∃ e, es.toList[i]? = some e := by
            have := (List.getElem?_eq_some_iff.1 l2).1
            exact ⟨_, List.getElem?_eq_getElem (by omega)⟩
          obtain ⟨c1, c2, c3, c4⟩ := k5 i e r he l2
          rw [b2] at c4
          obtain ⟨g, hg, hrep⟩ := valP_rep h c4 (fun g hg => closed0_cell (c1 g (List.mem_of_mem_drop hg)))
          have hrun := found i e l1 he
          cases ok with
          | true => exact ⟨_, _, hg, hrun, .tup _ [e.val, .bool true] rfl (fun i g' v' h1 h2 => by
              match i, h1, h2 with
              | 0, h1, h2 => cases h1; cases h2; exact hrep
              | 1, h1, h2 => cases h1; cases h2; exact .bool _)⟩
          | false => exact ⟨_, _, hg, hrun, hrep⟩
        · subst l2; subst l3
          obtain ⟨z, hz, hzr⟩ := zero_as (C := C) (w := w) hzc
          rw [q3] at hzr
          obtain ⟨z0, y1, y2, y3, y4, y5⟩ := zeroCells_sound hzc w
          rw [hz] at y1; cases y1
          obtain ⟨g, hg, hrep⟩ := valP_rep h hzr (fun g hg => by
            obtain ⟨j, hj⟩ := List.mem_iff_getElem?.1 hg
            have hjl : j < z.cells.toList.length := by rw [y2]; exact (List.getElem?_eq_some_iff.1 hj).1
            exact (y5 C w j g _ hj (List.getElem?_eq_getElem hjl)).1)
          have hrun := missed z l1 hz
          cases ok with
          | true => exact ⟨_, _, hg, hrun, .tup _ [z, .bool false] rfl (fun i g' v' h1 h2 => by
              match i, h1, h2 with
              | 0, h1, h2 => cases h1; cases h2; exact hrep
              | 1, h1, h2 => cases h1; cases h2; exact .bool _)⟩
          | false => exact ⟨_, _, hg, hrun, hrep⟩
    · exact h.elim
  · exact h.elim
theorem makeM_sound {d : Nat} {t : TypeId} {k : G → St → Prop} (h : makeMP P d t st k) (hi : Inv C F st a w) : ∃ z w', (Instr.makeMap t none).run P w = .ok z w' ∧ After F k a z w' := by
  unfold makeMP at h
  split at h
  · rename_i K E dk de hd
    cases hlt : Nat.blt d st.rows.length with
    | false => rw [hlt] at h; exact h.elim
    | true =>
      rw [hlt] at h
      have hlt := Nat.le_of_ble_eq_true hlt
      obtain ⟨C1, hI1, hk1, _⟩ := hi.freeRow d
      obtain ⟨C2, hI2, hk2⟩ := hI1.newMap (kn := wide P dk K) (fl := flOf dk de) hk1 (by rw [freeRow_len]; exact hlt)
      exact ⟨.map (some w.heap.size), _, rfl, C2, _, _, h, hI2, .mp d _ _ _ hk2⟩
  · exact h.elim
theorem upd_sound {t : TypeId} {m key x : G} {k : St → Prop} (h : updP P t st m key x k) (hi : Inv C F st a w) {u v z : Value} (hm : Rep C w m u) (hkey : Rep C w key v) (hx : Rep C w x z) :
    ∃ st' w', k st' ∧ (Instr.mapUpdate t u v z).run P w = .ok () w' ∧ Inv C F st' a w' := by
  unfold updP at h
  split at h
  · rename_i K E dk de kk kn fl hd
    obtain ⟨d1, d2, d3⟩ := mapD_some hd
    split at h
    · rename_i xs hxs
      cases hq : keyFit P K dk kn key && Nat.beq fl (flOf dk de) && valFit P E de x with
      | false => rw [hq] at h; exact h.elim
      | true =>
        rw [hq] at h
        simp only [Bool.and_eq_true] at hq
        obtain ⟨⟨q1, q2⟩, q3⟩ := hq
        obtain ⟨f1, f2, f3, f4, f5, f6⟩ := keyFit_iff q1
        obtain ⟨v1, v2, v3⟩ := valFit_iff q3
        have q2 := Nat.eq_of_beq_eq_true q2
        obtain ⟨⟨o1, o2⟩, f, hf, h⟩ := h
        obtain ⟨B, es, clock, rfl, k1, k3, k4, k5⟩ := mp_inv hi hm hxs
        subst q2
        obtain ⟨b1, b2⟩ := flOf_bits dk de
        have hk := cellsAs_of hkey f2
        rw [f6] at hk
        have hv := cellsAs_of hx v1
        rw [v3] at hv
        have hck := run_checkKey2 (C := C) (w := w) d2 o1 (by rw [f3]; exact o2) hk false
        have hfk := run_findKey (C := C) (w := w) d2 o1 f1 hk k4 (fun i e r h1 h2 => by have := (k5 i e r h1 h2).2.2.1; rwa [b1] at this) (fun r hr => (hf r hr).1)
        have entry : ∀ e : MapEntry, e.key = v → e.val = z → EntAs C w kn (flOf dk de) e (key.cells ++ x.cells) := fun e h1 h2 => by
          refine ⟨fun g hg => ?_, by rw [List.length_append, f3]; omega, ?_, ?_⟩
          · rcases List.mem_append.1 hg with hg | hg
            · exact plain_closed0 (f5 g hg)
            · exact v2 g hg
          · rw [b1, List.take_left' f3, h1]; exact hk
          · rw [b2, List.drop_left' f3, h2]; exact hv
        unfold mput at h
        cases hh : hitI f xs with
        | none =>
          rw [hh] at h hfk
          simp only at h
          obtain ⟨r1, r2⟩ := setMap_only (P := P) k3 (es.push { key := v, val := z, born := clock }) (clock + 1)
          refine ⟨_, _, h, ?_, hi.mapTo (rowsOf hxs) k1 (by simpa using k4) (fun i e r h1 h2 => ?_) r2⟩
          · unfold Instr.mapUpdate
            simp only [Sem.run_bind, run_underlying d1, Result.andThen_ok, MapKept.run_getObj_map k3, hck, hfk, Option.bind_none]
            exact r1
          · rw [Array.toList_push] at h1
            by_cases hil : i < xs.length
            · rw [List.getElem?_append_left (by omega)] at h1
              rw [List.getElem?_append_left hil] at h2
              exact k5 i e r h1 h2
            · rw [List.getElem?_append_right (by omega)] at h1
              rw [List.getElem?_append_right (by omega)] at h2
              have e0 : i - xs.length = 0 := by
                have := (List.getElem?_eq_some_iff.1 h2).1; simp at this; omega
              rw [k4, e0] at h1
              rw [e0] at h2
              simp only [List.getElem?_cons_zero, Option.some.injEq] at h1 h2
              subst h1; subst h2
              exact entry _ rfl rfl
        | some j =>
          rw [hh] at h hfk
          simp only at h
          obtain ⟨r, hr, hfr⟩ := hitI_some hh
          have hjl : j < es.toList.length := by rw [k4]; exact (List.getElem?_eq_some_iff.1 hr).1
          have hej : es.toList[j]? = some es.toList[j] := List.getElem?_eq_getElem hjl
          have hej' : es[j]? = some es.toList[j] := by rw [← Array.getElem?_toList]; exact hej
          have hold := (k5 j _ r hej hr).2.2.1
          rw [b1, (hf r (List.mem_of_getElem? hr)).2 hfr] at hold
          have hsame : es.toList[j].key = v := cells_same f5 hold hk
          obtain ⟨r1, r2⟩ := setMap_only (P := P) k3 (es.modify j fun e => { e with key := v, val := z }) clock
          have hstay : (Instr.keyThatStays (((es[j]?).map (·.key)).getD v) v).run P w = .ok v w := by
            rw [hej']
            simp only [Option.map_some, Option.getD_some, hsame]
            unfold Instr.keyThatStays
            rw [sameBits_cells f5 hk]; rfl
          refine ⟨_, _, h, ?_, hi.mapTo (rowsOf hxs) k1 (by simp [k4]) (fun i e r' h1 h2 => ?_) r2⟩
          · unfold Instr.mapUpdate
            simp only [Sem.run_bind, run_underlying d1, Result.andThen_ok, MapKept.run_getObj_map k3, hck, hfk, Option.bind_some, hej, Option.map_some, hstay]
            exact r1
          · rw [Array.toList_modify, List.getElem?_modify] at h1
            rw [List.getElem?_set] at h2
            by_cases e0 : j = i
            · subst e0
              rw [if_pos rfl, if_pos (by omega)] at h2
              simp only [if_true, hej, Option.map_eq_map, Option.map_some, Option.some.injEq] at h1
              subst h1; cases h2
              exact entry _ rfl rfl
            · rw [if_neg e0] at h2
              exact k5 i e r' (by simpa [e0] using h1) h2
    · exact h.elim
  · exact h.elim
theorem del_sound {gs : List G} {ts : List TypeId} {k : G → St → Prop} (h : delP P gs ts st k) (hi : Inv C F st a w) {args : Array Operand} (hg : args.toList.map st.ev = gs) {ats : Array TypeId} (ht : ats.toList = ts) (ty : TypeId) :
    ∃ st' w', k (.tup []) st' ∧ (Builtin.delete_ ats ty (args.map a.eval)).run P w = .ok (.tuple #[]) w' ∧ Inv C F st' a w' := by
  unfold delP at h
  split at h
  · rename_i m key t ts'
    obtain ⟨X, Y, hX, hXe, hYe⟩ := map_two hg
    have hm := hi.ev X
    have hkey := hi.ev Y
    rw [hXe] at hm
    rw [hYe] at hkey
    generalize hu : a.eval X = u at hm
    generalize hv : a.eval Y = v at hkey
    have e0 : args.map a.eval = #[u, v] := by apply Array.toList_inj.1; simp [hX, hu, hv]
    have ht0 : ats[0]? = some t := by rw [← Array.getElem?_toList, ht]; rfl
    rw [e0]
    split at h
    · rename_i K E dk de kk kn fl hd
      obtain ⟨d1, d2, d3⟩ := mapD_some hd
      split at h
      · rename_i xs hxs
        cases hq : keyFit P K dk kn key && Nat.beq fl (flOf dk de) with
        | false => rw [hq] at h; exact h.elim
        | true =>
          rw [hq] at h
          simp only [Bool.and_eq_true] at hq
          obtain ⟨q1, q2⟩ := hq
          obtain ⟨f1, f2, f3, f4, f5, f6⟩ := keyFit_iff q1
          have q2 := Nat.eq_of_beq_eq_true q2
          obtain ⟨⟨o1, o2⟩, f, hf, h⟩ := h
          obtain ⟨B, es, clock, rfl, k1, k3, k4, k5⟩ := mp_inv hi hm hxs
          subst q2
          obtain ⟨b1, b2⟩ := flOf_bits dk de
          have hk := cellsAs_of hkey f2
          rw [f6] at hk
          have hck := run_checkKey2 (C := C) (w := w) d2 o1 (by rw [f3]; exact o2) hk es.isEmpty
          have hfk := run_findKey (C := C) (w := w) d2 o1 f1 hk k4 (fun i e r h1 h2 => by have := (k5 i e r h1 h2).2.2.1; rwa [b1] at this) hf
          unfold mdel at h
          cases hh : hitI f xs with
          | none =>
            rw [hh] at h hfk
            simp only at h
            obtain ⟨r1, r2⟩ := setMap_only (P := P) k3 es clock
            refine ⟨_, _, h, ?_, hi.mapTo (rowsOf hxs) k1 k4 k5 r2⟩
            unfold Builtin.delete_
            simp only [ht0, List.getElem?_toArray, List.getElem?_cons_zero, List.getElem?_cons_succ, Sem.run_bind, run_underlying d1, Result.andThen_ok, MapKept.run_getObj_map k3, hck, hfk, Option.bind_none, r1, Sem.run_pure]
          | some j =>
            rw [hh] at h hfk
            simp only at h
            obtain ⟨r, hr, hfr⟩ := hitI_some hh
            have hjl : j < es.toList.length := by rw [k4]; exact (List.getElem?_eq_some_iff.1 hr).1
            have hej : es.toList[j]? = some es.toList[j] := List.getElem?_eq_getElem hjl
            obtain ⟨r1, r2⟩ := setMap_only (P := P) k3 (es.eraseIdxIfInBounds j) clock
            have het : (es.eraseIdxIfInBounds j).toList = es.toList.eraseIdx j := by
              unfold Array.eraseIdxIfInBounds
              rw [dif_pos (by simpa using hjl)]; simp
            refine ⟨_, _, h, ?_, hi.mapTo (rowsOf hxs) k1 (by rw [het, List.length_eraseIdx_of_lt hjl, List.length_eraseIdx_of_lt (by omega), k4]) (fun i e r' h1 h2 => ?_) r2⟩
            · unfold Builtin.delete_
              simp only [ht0, List.getElem?_toArray, List.getElem?_cons_zero, List.getElem?_cons_succ, Sem.run_bind, run_underlying d1, Result.andThen_ok, MapKept.run_getObj_map k3, hck, hfk, Option.bind_some, hej, Option.map_some, r1, Sem.run_pure]
            · rw [het, List.getElem?_eraseIdx] at h1
              rw [List.getElem?_eraseIdx] at h2
              split at h1
              · rename_i hij
                rw [if_pos hij] at h2
                exact k5 i e r' h1 h2
              · rename_i hij
                rw [if_neg hij] at h2
                exact k5 (i + 1) e r' h1 h2
      · exact h.elim
    · exact h.elim
  · exact h.elim
/-- The operations of uop, and those on maps. -/
def mop (P : Program) (d : Nat) (op : Op) (st : St) (k : G → St → Prop) : Prop :=
  match op with
  | .makeMap t none => makeMP P d t st k
  | .lookup t x key ok => lookP P t st (st.ev x) (st.ev key) ok fun g => k g st
  | .mapUpdate t m key x => updP P t st (st.ev m) (st.ev key) (st.ev x) fun st' => k .junk st'
  | .insert t m key x => updP P t st (st.ev m) (st.ev key) (st.ev x) fun st' => k .junk st'
  | .call { callee := .builtin .delete, args, argTypes } => delP P (args.toList.map st.ev) argTypes.toList st k
  | op => uop P d op st k
theorem mop_sound {o : Oper} {d : Nat} {k : G → St → Prop} (h : mop P d o.op st k) (hi : Inv C F st a w) : Goes P o a w (After F k a) := by
  obtain ⟨dst, op, ty, pos, aft, gd⟩ := o
  simp only at h
  unfold mop at h
  split at h
  · obtain ⟨z, w', h1, h2⟩ := makeM_sound h hi
    exact ⟨z, w', .inl (by simp only [execOp, Option.map_none]; exact run_bind_ok h1), h2⟩
  · obtain ⟨g, z, h1, h2, h3⟩ := look_sound h hi (hi.ev _) (hi.ev _)
    exact ⟨z, w, .inl (by simp only [execOp]; exact run_bind_ok h2), C, g, st, h1, hi, h3⟩
  · obtain ⟨st', w', h1, h2, h3⟩ := upd_sound h hi (hi.ev _) (hi.ev _) (hi.ev _)
    exact ⟨undef, w', .inr ⟨by simp only [execOp, Sem.run_bind, h2, Result.andThen_ok]; rfl, rfl⟩, C, .junk, st', h1, h3, .junk _⟩
  · obtain ⟨st', w', h1, h2, h3⟩ := upd_sound h hi (hi.ev _) (hi.ev _) (hi.ev _)
    exact ⟨undef, w', .inr ⟨by simp only [execOp, Sem.run_bind, h2, Result.andThen_ok]; rfl, rfl⟩, C, .junk, st', h1, h3, .junk _⟩
  · obtain ⟨st', w', h1, h2, h3⟩ := del_sound h hi rfl rfl ty
    refine ⟨.tuple #[], w', .inl ?_, C, _, st', h1, h3, .tup [] [] rfl (fun i g v hg => by simp at hg)⟩
    simp only [execOp, resolve, Sem.run_bind, Sem.run_pure, Result.andThen_ok, invoke, builtin, h2]
  · exact uop_sound (o := ⟨dst, _, ty, pos, aft, gd⟩) h hi
end
end Go.Proofs.YtcihkmnolagdlaaDoor.Av
