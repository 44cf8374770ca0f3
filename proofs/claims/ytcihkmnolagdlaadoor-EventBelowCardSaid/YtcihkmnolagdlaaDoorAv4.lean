/- Operations that compute: on values without memory. No condition. -/
import Derived.Test.YtcihkmnolagdlaaDoorAv3
namespace Go.Proofs.YtcihkmnolagdlaaDoor.Av
open Go Go.RowKit
set_option linter.unusedVariables false
set_option linter.unusedSimpArgs false

/-- Strings compared: it does not unfold in Lean's front, and is stuck at once in the kernel where a string is not known (ByteArray.toList there has no end). -/
@[irreducible] def strEq (a b : ByteArray) : Bool := a.data.toList == b.data.toList
@[irreducible] def strLt (a b : ByteArray) : Bool := Op.bytesLess a.data.toList b.data.toList
theorem strEq_eq (a b : ByteArray) : strEq a b = (a.toList == b.toList) := by unfold strEq; rw [ByteArray.toList_eq, ByteArray.toList_eq]
theorem strLt_eq (a b : ByteArray) : strLt a b = Op.bytesLess a.toList b.toList := by unfold strLt; rw [ByteArray.toList_eq, ByteArray.toList_eq]
theorem strEq_self (a : ByteArray) : strEq a a = true := by rw [strEq_eq]; exact beq_self_eq_true _

def arithP (op : BinOp) (k : IntKind) (m n : Int) (K : G → Prop) : Prop :=
  match op with
  | .add => K (.int k (k.wrap (m + n)))
  | .sub => K (.int k (k.wrap (m - n)))
  | .mul => K (.int k (k.wrap (m * n)))
  | .quo => bif n == 0 then False else K (.int k (k.wrap (m.tdiv n)))
  | .rem => bif n == 0 then False else K (.int k (m.tmod n))
  | .and => K (.int k (k.wrap (BitVec.ofInt k.bits m &&& BitVec.ofInt k.bits n).toNat))
  | .or => K (.int k (k.wrap (BitVec.ofInt k.bits m ||| BitVec.ofInt k.bits n).toNat))
  | .xor => K (.int k (k.wrap (BitVec.ofInt k.bits m ^^^ BitVec.ofInt k.bits n).toNat))
  | .andNot => K (.int k (k.wrap (BitVec.ofInt k.bits m &&& ~~~ BitVec.ofInt k.bits n).toNat))
  | .eql => K (.bool (m == n))
  | .neq => K (.bool (m != n))
  | .lss => K (.bool (decide (m < n)))
  | .leq => K (.bool (decide (m ≤ n)))
  | .gtr => K (.bool (decide (m > n)))
  | .geq => K (.bool (decide (m ≥ n)))
  | _ => False
def strP (op : BinOp) (x y : ByteArray) (K : G → Prop) : Prop :=
  match op with
  | .add => ((x.size + y.size : Nat) : Int) ≤ 9223372036854775807 ∧ K (.str (x ++ y))
  | .eql => K (.bool (strEq x y))
  | .neq => K (.bool (!(strEq x y)))
  | .lss => K (.bool (strLt x y))
  | .leq => K (.bool (strLt x y || strEq x y))
  | .gtr => K (.bool (!(strLt x y || strEq x y)))
  | .geq => K (.bool (!(strLt x y)))
  | _ => False
/-- Types of scalars, and of structs of them, that the model compares part by part. (Worked out by the kernel.) -/
def eqOk (P : Program) : Nat → TypeId → Bool
  | 0, _ => false
  | d + 1, t =>
    match P.underlying t with
    | some (.int _) | some .bool | some .string => true
    | some (.struct fs) => !P.stoodInHeld t && fs.toList.all fun f => f.name != "_" && eqOk P d f.type
    | _ => false
def eqGo (P : Program) (rec' : TypeId → List G → List G → Option Bool) (xs ys : List G) : List Field → Option Bool
  | [] => some true
  | f :: fs =>
    match P.underlying f.type with
    | none => none
    | some dd =>
    bif Nat.ble (f.offset + wide P dd f.type) xs.length && Nat.ble (f.offset + wide P dd f.type) ys.length then
    match rec' f.type ((xs.drop f.offset).take (wide P dd f.type)) ((ys.drop f.offset).take (wide P dd f.type)), eqGo P rec' xs ys fs with
    | some a, some b => some (a && b)
    | _, _ => none
    else none
/-- Equality of scalars, and of structs of scalars, as the model goes through them. -/
def eqT (P : Program) : Nat → TypeId → List G → List G → Option Bool
  | 0, _, _, _ => none
  | d + 1, t, xs, ys =>
    match P.underlying t with
    | some (.int _) => match xs, ys with | [.int k m], [.int k' n] => if k = k' then some (m == n) else none | _, _ => none
    | some .bool => match xs, ys with | [.bool a], [.bool b] => some (a == b) | _, _ => none
    | some .string => match xs, ys with | [.str a], [.str b] => some (strEq a b) | _, _ => none
    | some (.struct fs) => eqGo P (eqT P d) xs ys fs.toList
    | _ => none
def binP (P : Program) (op : BinOp) (t : TypeId) (x y : G) (K : G → Prop) : Prop :=
  match x, y with
  | .int k m, .int k' n =>
    match op with
    | .shl => bif decide (n < 0) then False else K (.int k (k.wrap (m * 2 ^ (min n.toNat k.bits))))
    | .shr => bif decide (n < 0) then False else K (.int k (m.fdiv (2 ^ (min n.toNat k.bits))))
    | op => if k = k' then arithP op k m n K else False
  | .str a, .str b => strP op a b K
  | .bool a, .bool b =>
    match P.underlying t, op with
    | some .bool, .eql => K (.bool (a == b))
    | some .bool, .neq => K (.bool (!(a == b)))
    | _, _ => False
  | .agg xs, .agg ys =>
    (P.eqGuardType P.depth t = false ∧ eqOk P 12 t = true) ∧ if !((P.underlying t).any aggD) then False else
    match op, eqT P 12 t xs ys with
    | .eql, some b => K (.bool b)
    | .neq, some b => K (.bool (!b))
    | _, _ => False
  | _, _ => False
def unP (op : UnOp) (x : G) (K : G → Prop) : Prop :=
  match op, x with
  | .neg, .int k n => K (.int k (k.wrap (0 - n)))
  | .not, .bool b => K (.bool (!b))
  | _, _ => False

theorem arithP_sound {op : BinOp} {k : IntKind} {m n : Int} {K : G → Prop} (h : arithP op k m n K) (P : Program) (t : TypeId) (w : World) (hs : op ≠ .shl) (hr : op ≠ .shr) : ∃ g v, K g ∧ (binOp op t (.int k m) (.int k n)).run P w = .ok v w ∧ ∀ C, Rep C w g v := by
  cases op <;> simp only [arithP] at h <;> first
    | exact absurd rfl hs
    | exact absurd rfl hr
    | exact ⟨_, _, h, by first | (simp [binOp, Op.intArith, Op.intBits, Op.intCmp]; done) | (simp [binOp, Op.intArith, Op.intBits, Op.intCmp]; rfl), fun C => .int ..⟩
    | exact ⟨_, _, h, by first | (simp [binOp, Op.intArith, Op.intBits, Op.intCmp]; done) | (simp [binOp, Op.intArith, Op.intBits, Op.intCmp]; rfl), fun C => .bool ..⟩
    | (cases hb : (n == 0) with
       | true => rw [hb] at h; exact h.elim
       | false =>
         rw [hb] at h
         have hn : ¬ n = 0 := by simpa using hb
         exact ⟨_, _, h, by simp [binOp, Op.intDiv, hn], fun C => .int ..⟩)
theorem strP_sound {op : BinOp} {x y : ByteArray} {K : G → Prop} (h : strP op x y K) (P : Program) (t : TypeId) (w : World) : ∃ g v, K g ∧ (binOp op t (.string x) (.string y)).run P w = .ok v w ∧ ∀ C, Rep C w g v := by
  cases op <;> simp only [strP, strEq_eq, strLt_eq] at h <;> first
    | exact ⟨_, _, h, by first | (simp [binOp, Op.stringOp]; done) | (simp [binOp, Op.stringOp]; rfl), fun C => .bool ..⟩
    | exact h.elim
    | (refine ⟨_, .string (x ++ y), h.2, ?_, fun C => .str ..⟩
       simp only [binOp, Op.stringOp]
       rw [if_neg (by have := h.1; simp [IntKind.max, IntKind.signed, IntKind.bits] at *; omega)]; rfl)

/-- Cells that read as these. -/
def RepL (C : Cx) (w : World) (gs : List G) (vs : List Value) : Prop :=
  vs.length = gs.length ∧ (∀ v ∈ vs, v.oneCell' = true) ∧ ∀ (i : Nat) g v, gs[i]? = some g → vs[i]? = some v → Rep C w g v
theorem RepL.part {C : Cx} {w : World} {gs : List G} {vs : List Value} (h : RepL C w gs vs) (o n : Nat) : RepL C w ((gs.drop o).take n) ((vs.drop o).take n) := by
  refine ⟨by simp [h.1], fun v hv => h.2.1 v (List.mem_of_mem_drop (List.mem_of_mem_take hv)), fun i g v hg hv => ?_⟩
  rw [List.getElem?_take] at hg hv
  split at hg
  · rename_i hi
    rw [if_pos hi] at hv
    rw [List.getElem?_drop] at hg hv
    exact h.2.2 _ g v hg hv
  · cases hg
theorem RepL.one {C : Cx} {w : World} {g : G} {vs : List Value} (h : RepL C w [g] vs) : ∃ v, vs = [v] ∧ Rep C w g v := by
  obtain ⟨h1, _, h3⟩ := h
  match vs, h1 with
  | [v], _ => exact ⟨v, rfl, h3 0 g v rfl rfl⟩
theorem Rep.int_inv {C : Cx} {w : World} {k : IntKind} {n : Int} {v : Value} (h : Rep C w (.int k n) v) : v = .int k n := by cases h; rfl
theorem Rep.bool_inv {C : Cx} {w : World} {b : Bool} {v : Value} (h : Rep C w (.bool b) v) : v = .bool b := by cases h; rfl
theorem Rep.str_inv {C : Cx} {w : World} {s : ByteArray} {v : Value} (h : Rep C w (.str s) v) : v = .string s := by cases h; rfl
theorem Rep.agg_inv {C : Cx} {w : World} {gs : List G} {v : Value} (h : Rep C w (.agg gs) v) : ∃ vs, v = .agg ⟨vs⟩ ∧ RepL C w gs vs ∧ ∀ g ∈ gs, g.cell = true := by
  cases h with
  | agg _ vs hl hc hv h => exact ⟨vs, rfl, ⟨hl, hv, h⟩, hc⟩

theorem run_part_of {P : Program} {t : TypeId} {d : TypeDesc} (hu : P.underlying t = some d) {vs : List Value} {o : Nat} (hle : o + wide P d t ≤ vs.length) (w : World) :
    (part t ⟨vs⟩ o).run P w = .ok (bif aggD d then .agg ⟨(vs.drop o).take (P.cellsOf t)⟩ else vs.getD o undef) w := by
  unfold part
  rw [Sem.run_bind, run_isAgg' hu, Result.andThen_ok]
  unfold wide at hle
  cases ha : aggD d with
  | true =>
    rw [ha] at hle; simp only [cond_true] at hle ⊢
    simp only [if_true, Sem.run_bind, run_size hu, Result.andThen_ok]
    simp only [Sem.run_pure]
    congr 2
    apply Array.toList_inj.1
    simp [List.extract_eq_take_drop]
  | false =>
    rw [ha] at hle; simp only [cond_false] at hle ⊢
    simp only [Bool.false_eq_true, if_false]
    have : (⟨vs⟩ : Array Value)[o]? = some (vs.getD o undef) := by
      rw [List.getD_eq_getElem?_getD]; simp [List.getElem?_eq_getElem (show o < vs.length by omega)]
    rw [this]; rfl

def EqIs (P : Program) (C : Cx) (w : World) (d : Nat) : Prop :=
  ∀ (t : TypeId) (xs ys : List G) (b : Bool) (us vs : List Value) (dd : TypeDesc), eqOk P d t = true → eqT P d t xs ys = some b → P.underlying t = some dd → RepL C w xs us → RepL C w ys vs →
    ∀ D, d ≤ D → (Op.equalIn D t (bif aggD dd then .agg ⟨us⟩ else us.getD 0 undef) (bif aggD dd then .agg ⟨vs⟩ else vs.getD 0 undef)).run P w = .ok b w
theorem part_key (P : Program) (dd : TypeDesc) (t : TypeId) (o : Nat) (zs : List Value) (hz : o + wide P dd t ≤ zs.length) : (bif aggD dd then Value.agg ⟨(zs.drop o).take (P.cellsOf t)⟩ else zs.getD o undef) =
    (bif aggD dd then Value.agg ⟨(zs.drop o).take (wide P dd t)⟩ else ((zs.drop o).take (wide P dd t)).getD 0 undef) := by
  unfold wide at hz ⊢
  cases aggD dd
  · simp only [cond_false] at hz ⊢
    rw [List.getD_eq_getElem?_getD, List.getD_eq_getElem?_getD, List.getElem?_take, if_pos (by omega), List.getElem?_drop]; rfl
  · rfl
theorem eqGo_sound {P : Program} {C : Cx} {w : World} {d : Nat} (ih : EqIs P C w d) {xs ys : List G} {us vs : List Value} (h1 : RepL C w xs us) (h2 : RepL C w ys vs) {D : Nat} (hD : d ≤ D) :
    ∀ (fs : List Field) (b : Bool), fs.all (fun f => f.name != "_" && eqOk P d f.type) = true → eqGo P (eqT P d) xs ys fs = some b → (Op.eqFields D ⟨us⟩ ⟨vs⟩ fs).run P w = .ok b w := by
  intro fs
  induction fs with
  | nil => intro b _ h; simp [eqGo] at h; subst h; rfl
  | cons f fs ihf =>
    intro b hok h
    simp only [List.all_cons, Bool.and_eq_true, bne_iff_ne] at hok
    unfold eqGo at h
    cases hu : P.underlying f.type with
    | none => rw [hu] at h; simp at h
    | some dd =>
      rw [hu] at h
      simp only at h
      cases hle : Nat.ble (f.offset + wide P dd f.type) xs.length && Nat.ble (f.offset + wide P dd f.type) ys.length with
      | false => rw [hle] at h; simp at h
      | true =>
        rw [hle] at h
        simp only [cond_true] at h
        simp only [Bool.and_eq_true] at hle
        have l1 := Nat.le_of_ble_eq_true hle.1
        have l2 := Nat.le_of_ble_eq_true hle.2
        split at h
        · rename_i x y hx hy
          obtain rfl := Option.some.inj h
          have e1 := ih f.type _ _ x _ _ dd hok.1.2 hx hu (h1.part f.offset (wide P dd f.type)) (h2.part f.offset (wide P dd f.type)) D hD
          have e2 := ihf y hok.2 hy
          simp only [Op.eqFields]
          rw [if_pos hok.1.1, Sem.run_bind, run_part_of hu (by rw [h1.1]; exact l1), Result.andThen_ok, Sem.run_bind, run_part_of hu (by rw [h2.1]; exact l2), Result.andThen_ok, Sem.run_bind,
            part_key P dd f.type f.offset us (by rw [h1.1]; exact l1), part_key P dd f.type f.offset vs (by rw [h2.1]; exact l2), e1, Result.andThen_ok]
          cases x
          · rfl
          · simpa using e2
        · cases h
theorem eqT_sound {P : Program} {C : Cx} {w : World} : ∀ (d : Nat), EqIs P C w d := by
  intro d
  induction d with
  | zero => intro t xs ys b us vs dd _ h; simp [eqT] at h
  | succ d ih =>
    intro t xs ys b us vs dd hok h hu h1 h2 D hD
    obtain ⟨D, rfl⟩ : ∃ m, D = m + 1 := ⟨D - 1, by omega⟩
    unfold eqT at h; rw [hu] at h
    cases dd with
    | int k0 =>
      simp only at h
      split at h
      · rename_i k m k' n
        obtain ⟨u, rfl, hu1⟩ := h1.one
        obtain ⟨v, rfl, hv1⟩ := h2.one
        obtain rfl := hu1.int_inv
        obtain rfl := hv1.int_inv
        split at h
        · rename_i e; subst e
          obtain rfl := Option.some.inj h
          exact run_equalIn_int w D t k k0 m n hu
        · cases h
      · cases h
    | bool =>
      simp only at h
      split at h
      · obtain ⟨u, rfl, hu1⟩ := h1.one
        obtain ⟨v, rfl, hv1⟩ := h2.one
        obtain rfl := hu1.bool_inv
        obtain rfl := hv1.bool_inv
        obtain rfl := Option.some.inj h
        exact run_equalIn_bool' w D t _ _ hu
      · cases h
    | string =>
      simp only at h
      split at h
      · obtain ⟨u, rfl, hu1⟩ := h1.one
        obtain ⟨v, rfl, hv1⟩ := h2.one
        obtain rfl := hu1.str_inv
        obtain rfl := hv1.str_inv
        obtain rfl := Option.some.inj h
        rw [strEq_eq]
        exact run_equalIn_string w D t _ _ hu
      · cases h
    | struct fs =>
      simp only at h
      unfold eqOk at hok
      rw [hu] at hok
      simp only [Bool.and_eq_true, Bool.not_eq_true'] at hok
      · have hs := hok.1
        have hf : P.fieldsOf t = fs := by simp [Program.fieldsOf, hu]
        show (Op.equalIn (D + 1) t (.agg ⟨us⟩) (.agg ⟨vs⟩)).run P w = _
        rw [run_equalIn_struct w D t _ _ (by rw [hf]; exact hu) (by simpa using hs), hf]
        exact eqGo_sound ih h1 h2 (by omega) fs.toList b hok.2 h
    | _ => simp at h

theorem binP_sound {P : Program} {op : BinOp} {t : TypeId} {x y : G} {K : G → Prop} (h : binP P op t x y K) {C : Cx} {w : World} {u v : Value} (hx : Rep C w x u) (hy : Rep C w y v) (X Y : Operand) :
    ∃ g z, K g ∧ ((do eqGuard op t X Y u v; binOp op t u v : Sem Value).run P w = .ok z w) ∧ Rep C w g z := by
  unfold binP at h
  split at h
  · obtain rfl := hx.int_inv
    obtain rfl := hy.int_inv
    have hg : ∀ k m k' n, (eqGuard op t X Y (.int k m) (.int k' n)).run P w = .ok () w := fun k m k' n => by unfold eqGuard; cases op <;> rfl
    rw [Sem.run_bind, hg, Result.andThen_ok]
    split at h
    · rename_i k m k' n opx
      cases hb : decide (n < 0) with
      | true => rw [hb] at h; exact h.elim
      | false =>
        rw [hb] at h
        have hn : ¬ n < 0 := by simpa using hb
        exact ⟨_, _, h, by simp only [binOp, Op.shift]; rw [if_neg hn]; rfl, .int ..⟩
    · rename_i k m k' n opx
      cases hb : decide (n < 0) with
      | true => rw [hb] at h; exact h.elim
      | false =>
        rw [hb] at h
        have hn : ¬ n < 0 := by simpa using hb
        exact ⟨_, _, h, by simp only [binOp, Op.shift]; rw [if_neg hn]; rfl, .int ..⟩
    · split at h
      · rename_i hs hr e; subst e
        obtain ⟨g, z, k1, k2, k3⟩ := arithP_sound h P t w (fun e => hs e) (fun e => hr e)
        exact ⟨g, z, k1, k2, k3 C⟩
      · exact h.elim
  · obtain rfl := hx.str_inv
    obtain rfl := hy.str_inv
    have hg : ∀ a b, (eqGuard op t X Y (.string a) (.string b)).run P w = .ok () w := fun a b => by unfold eqGuard; cases op <;> rfl
    rw [Sem.run_bind, hg, Result.andThen_ok]
    obtain ⟨g, z, k1, k2, k3⟩ := strP_sound h P t w
    exact ⟨g, z, k1, k2, k3 C⟩
  · obtain rfl := hx.bool_inv
    obtain rfl := hy.bool_inv
    have hg : ∀ a b, (eqGuard op t X Y (.bool a) (.bool b)).run P w = .ok () w := fun a b => by unfold eqGuard; cases op <;> rfl
    rw [Sem.run_bind, hg, Result.andThen_ok]
    split at h
    · rename_i hu
      exact ⟨_, _, h, by simp only [binOp, Sem.run_bind]; rw [show (Op.equal t _ _ : Sem Bool) = Op.equalIn 10000 t _ _ from rfl, run_equalIn_bool' w 9999 t _ _ hu]; rfl, .bool ..⟩
    · rename_i hu
      exact ⟨_, _, h, by simp only [binOp, Sem.run_bind]; rw [show (Op.equal t _ _ : Sem Bool) = Op.equalIn 10000 t _ _ from rfl, run_equalIn_bool' w 9999 t _ _ hu]; rfl, .bool ..⟩
    · exact h.elim
  · obtain ⟨us, rfl, h1, _⟩ := hx.agg_inv
    obtain ⟨vs, rfl, h2, _⟩ := hy.agg_inv
    · obtain ⟨⟨hq, hok⟩, h⟩ := h
      rw [Sem.run_bind, run_eqGuard_agg w op t X Y _ _ hq, Result.andThen_ok]
      split at h
      · exact h.elim
      rename_i hq2
      have key : ∀ b, eqT P 12 t _ _ = some b → (Op.equalIn 10000 t (.agg ⟨us⟩) (.agg ⟨vs⟩)).run P w = .ok b w := fun b hb => by
        cases hu : P.underlying t with
        | none => rw [hu] at hq2; simp at hq2
        | some dd =>
          rw [hu] at hq2
          have ha : aggD dd = true := by simpa using hq2
          have := eqT_sound 12 t _ _ b us vs dd hok hb hu h1 h2 10000 (by omega)
          rw [ha] at this; exact this
      split at h
      · rename_i b hb
        exact ⟨_, _, h, by rw [run_eql_struct, key b hb]; rfl, .bool _⟩
      · rename_i b hb
        exact ⟨_, _, h, by rw [run_neq_struct, key b hb]; rfl, .bool _⟩
      · exact h.elim
  · exact h.elim
end Go.Proofs.YtcihkmnolagdlaaDoor.Av
