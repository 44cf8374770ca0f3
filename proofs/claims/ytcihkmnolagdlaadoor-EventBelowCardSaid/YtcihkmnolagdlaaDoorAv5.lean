/- Operations on slots, own variables and what is read: what each asks and answers, and that the machine does so. No condition. -/
import Derived.Test.YtcihkmnolagdlaaDoorAv4
namespace Go.Proofs.YtcihkmnolagdlaaDoor.Av
open Go Go.RowKit
set_option linter.unusedVariables false
set_option linter.unusedSimpArgs false

/-! Values worked out: 'force' is the function's application, and lets the walk work the state out before it goes on. -/
universe v
def fN {β : Sort v} (n : Nat) (k : Nat → β) : β :=
  match n with
  | 0 => k 0
  | m + 1 => k (m + 1)
theorem fN_eq {β : Sort v} (n : Nat) (k : Nat → β) : fN n k = k n := by cases n <;> rfl
def fG (g : G) {β : Sort v} (k : G → β) : β :=
  match g with
  | .int kd n => k (.int kd n)
  | .bool b => k (.bool b)
  | .str s => k (.str s)
  | .lit v => k (.lit v)
  | .fn f caps => k (.fn f caps)
  | .meth f gs => k (.meth f gs)
  | .agg gs => k (.agg gs)
  | .tup gs => k (.tup gs)
  | .sl xs => k (.sl xs)
  | .nils => k .nils
  | .emp => k .emp
  | .ne => k .ne
  | .own a b c => fN a fun a => k (.own a b c)
  | .ptr b o => fN b fun b => k (.ptr b o)
  | .elt r o => fN o fun o => k (.elt r o)
  | .eltw a b c => fN a fun a => k (.eltw a b c)
  | .dat a => fN a fun a => k (.dat a)
  | .dead => k .dead
  | .junk => k .junk
  | .und => k .und
  | .nilt => k .nilt
  | .ptrt b T n => fN b fun b => k (.ptrt b T n)
  | .ownt a l T => fN a fun a => k (.ownt a l T)
  | .datt a T => fN a fun a => k (.datt a T)
  | .mp a n f => fN a fun a => fN n fun n => fN f fun f => k (.mp a n f)
/-! (By recursors: Lean's front goes through 'smart unfoldings' of structural recursions ten times as slowly.) -/
noncomputable def fL {β : Sort v} (l : List G) : (List G → β) → β := List.rec (motive := fun _ => (List G → β) → β) (fun k => k []) (fun g _ ih k => fG g fun g' => ih fun gs' => k (g' :: gs')) l
noncomputable def fLL {β : Sort v} (l : List (List G)) : (List (List G) → β) → β := List.rec (motive := fun _ => (List (List G) → β) → β) (fun k => k []) (fun r _ ih k => fL r fun r' => ih fun rs' => k (r' :: rs')) l
noncomputable def fA (g : G) {β : Sort v} (k : G → β) : β :=
  match g with
  | .agg gs => fL gs fun gs' => k (.agg gs')
  | .fn f caps => fL caps fun caps' => k (.fn f caps')
  | .meth f gs => fL gs fun gs' => k (.meth f gs')
  | g => fG g k
noncomputable def fS {β : Sort v} (l : List G) : (List G → β) → β := List.rec (motive := fun _ => (List G → β) → β) (fun k => k []) (fun g _ ih k => fA g fun g' => ih fun gs' => k (g' :: gs')) l
noncomputable def fO (o : Option (List G)) {β : Sort v} (k : Option (List G) → β) : β :=
  match o with
  | none => k none
  | some cs => fL cs fun cs' => k (some cs')
noncomputable def fB {β : Sort v} (l : List (Option (List G))) : (List (Option (List G)) → β) → β := List.rec (motive := fun _ => (List (Option (List G)) → β) → β) (fun k => k []) (fun o _ ih k => fO o fun o' => ih fun os' => k (o' :: os')) l
def fP (o : Option (List (List G))) {β : Sort v} (k : Option (List (List G)) → β) : β :=
  match o with
  | none => k none
  | some xs => k (some xs)
noncomputable def fR {β : Sort v} (l : List (Option (List (List G)))) : (List (Option (List (List G))) → β) → β := List.rec (motive := fun _ => (List (Option (List (List G))) → β) → β) (fun k => k []) (fun o _ ih k => fP o fun o' => ih fun os' => k (o' :: os')) l
noncomputable def St.force (st : St) {β : Sort v} (k : St → β) : β := fS st.slots fun s => fB st.boxes fun b => fR st.rows fun r => k ⟨s, b, r⟩
theorem fG_eq {β : Sort v} (g : G) (k : G → β) : fG g k = k g := by
  cases g with
  | own a b c => show fN a (fun a => k (.own a b c)) = _; rw [fN_eq]
  | ptr b o => show fN b (fun b => k (.ptr b o)) = _; rw [fN_eq]
  | elt r o => show fN o (fun o => k (.elt r o)) = _; rw [fN_eq]
  | eltw a b c => show fN a (fun a => k (.eltw a b c)) = _; rw [fN_eq]
  | dat a => show fN a (fun a => k (.dat a)) = _; rw [fN_eq]
  | ptrt b T n => show fN b (fun b => k (.ptrt b T n)) = _; rw [fN_eq]
  | ownt a l T => show fN a (fun a => k (.ownt a l T)) = _; rw [fN_eq]
  | datt a T => show fN a (fun a => k (.datt a T)) = _; rw [fN_eq]
  | mp a n f => show fN a (fun a => fN n fun n => fN f fun f => k (.mp a n f)) = _; rw [fN_eq, fN_eq, fN_eq]
  | _ => rfl
theorem fL_eq {β : Sort v} : ∀ (gs : List G) (k : List G → β), fL gs k = k gs
  | [], k => rfl
  | g :: gs, k => by show fG g (fun g' => fL gs fun gs' => k (g' :: gs')) = _; rw [fG_eq, fL_eq gs]
theorem fLL_eq {β : Sort v} : ∀ (rs : List (List G)) (k : List (List G) → β), fLL rs k = k rs
  | [], k => rfl
  | r :: rs, k => by show fL r (fun r' => fLL rs fun rs' => k (r' :: rs')) = _; rw [fL_eq, fLL_eq rs]
theorem fA_eq {β : Sort v} (g : G) (k : G → β) : fA g k = k g := by
  cases g <;> first | rfl | (simp only [fA, fL_eq, fG_eq])
theorem fS_eq {β : Sort v} : ∀ (gs : List G) (k : List G → β), fS gs k = k gs
  | [], k => rfl
  | g :: gs, k => by show fA g (fun g' => fS gs fun gs' => k (g' :: gs')) = _; rw [fA_eq, fS_eq gs]
theorem fO_eq {β : Sort v} (o : Option (List G)) (k : Option (List G) → β) : fO o k = k o := by
  cases o <;> first | rfl | (simp only [fO, fL_eq])
theorem fB_eq {β : Sort v} : ∀ (os : List (Option (List G))) (k : List (Option (List G)) → β), fB os k = k os
  | [], k => rfl
  | o :: os, k => by show fO o (fun o' => fB os fun os' => k (o' :: os')) = _; rw [fO_eq, fB_eq os]
theorem fR_eq {β : Sort v} : ∀ (os : List (Option (List (List G)))) (k : List (Option (List (List G))) → β), fR os k = k os
  | [], k => rfl
  | o :: os, k => by show fP o (fun o' => fR os fun os' => k (o' :: os')) = _; cases o <;> (unfold fP; simp only [fR_eq os])
theorem St.force_eq {β : Sort v} (st : St) (k : St → β) : st.force k = k st := by unfold St.force; rw [fS_eq, fB_eq, fR_eq]


noncomputable def setK {β : Sort v} (l : List G) : Nat → G → (List G → β) → β := List.rec (motive := fun _ => Nat → G → (List G → β) → β) (fun _ _ k => k [])
  (fun x xs ih n g k => Nat.rec (motive := fun _ => β) (k (g :: xs)) (fun m _ => ih m g fun xs' => k (x :: xs')) n) l
theorem setK_eq {β : Sort v} : ∀ (xs : List G) (n : Nat) (g : G) (k : List G → β), setK xs n g k = k (xs.set n g)
  | [], n, g, k => by rw [List.set_nil]; rfl
  | x :: xs, 0, g, k => rfl
  | x :: xs, n + 1, g, k => by show setK xs n g (fun xs' => k (x :: xs')) = _; rw [setK_eq xs n g]; rfl
/-- The state behind an operation, worked out. -/
def St.next (st : St) (pure : Bool) (d : Option Tmp) (g : G) (k : St → Prop) : Prop :=
  fA g fun g => bif pure then (match d with | some d => (match st with | ⟨sl, bx, rw'⟩ => setK sl d g fun s => k ⟨s, bx, rw'⟩) | none => k st)
    else st.force fun st => (match d with | some d => setK st.slots d g fun s => k ⟨s, st.boxes, st.rows⟩ | none => k st)
theorem St.next_eq (st : St) (pure : Bool) (d : Option Tmp) (g : G) (k : St → Prop) : st.next pure d g k = k (st.put d g) := by
  unfold St.next St.put
  rw [fA_eq, St.force_eq]
  cases pure <;> cases d <;> simp only [cond_true, cond_false, setK_eq]

def zG : Value → G
  | .int k n => .int k n
  | .bool b => .bool b
  | .string s => .str s
  | .slice none 0 0 => .nils
  | v => .lit v
def zeroCells (P : Program) (t : TypeId) : Option (List G) :=
  match P.info? t with
  | some i => match i.zero with
    | some z => if z.cells.toList.all (·.oneCell') && (z.cells.toList.length == i.size) then some (z.cells.toList.map zG) else none
    | none => none
  | none => none
def fieldOf (P : Program) (s : TypeId) (f : Nat) : Option Field :=
  match P.underlying s with
  | some (.struct fs) => fs[f]?
  | _ => none
def okReg (g : G) : Bool := g.cell || (match g with | .agg _ => true | _ => false)

def loadP (P : Program) (t : TypeId) (st : St) (p : G) (k : G → Prop) : Prop :=
  match P.underlying t with
  | none => False
  | some d =>
    match p with
    | .ptr b off => match st.boxes.getD b none with
      | some cs => bif Nat.ble (off + wide P d t) cs.length then k (rdC P d t off cs) else False
      | none => False
    | .elt row off => bif Nat.ble (off + wide P d t) row.length then k (rdC P d t off row) else False
    | .eltw kk i off => match st.rows.getD kk none with
      | some xs => ∃ row, xs[i]? = some row ∧ bif Nat.ble (off + wide P d t) row.length then k (rdC P d t off row) else False
      | none => False
    | _ => False
def storeP (P : Program) (t : TypeId) (st : St) (p x : G) (k : St → Prop) : Prop :=
  match P.underlying t with
  | none => False
  | some d =>
    match p with
    | .ptr b off => match st.boxes.getD b none with
      | some cs => bif okReg x && (x.cells.length == P.cellsOf t) && Nat.ble (off + P.cellsOf t) cs.length then k (st.setBox b (blit cs off x.cells)) else False
      | none => False
    | _ => False
def fieldPl (P : Program) (fs : Array Field) (i : Nat) : Option (Nat × Nat) :=
  match fs[i]? with
  | some f => some (f.offset, P.cellsOf f.type)
  | none => none
noncomputable def buildCells (pl : Nat → Option (Nat × Nat)) (st : St) (cs : List G) : List (Nat × Operand) → Option (List G)
  | [] => some cs
  | (i, x) :: rest =>
    match pl i with
    | none => none
    | some (o, n) => if okReg (st.ev x) && ((st.ev x).cells.length == n) && Nat.ble (o + n) cs.length then fL (blit cs o (st.ev x).cells) fun cs' => buildCells pl st cs' rest else none
def chunk (len n : Nat) (gs : List G) : List (List G) := (List.range len).map fun i => (gs.drop (i * n)).take n
def repCells (len n : Nat) (zc : List G) : List G := (List.range (len * n)).map fun i => zc.getD (i % n) .junk
def lenG (d : TypeDesc) (g : G) : Option Int :=
  match g with
  | .agg _ => match d with | .array n _ => some n | _ => none
  | .str s => some s.size
  | .sl xs => some xs.length
  | .nils => some 0
  | .emp => some 0
  | .ne => some 0
  | .own _ _ l => some l
  | .nilt => some 0
  | .ownt _ l _ => some l
  | _ => none
def isStrOrSl : TypeDesc → G → Bool
  | .string, .str _ => true
  | .slice _, .nilt | .slice _, .ownt .. => true
  | .slice _, .sl _ | .slice _, .nils | .slice _, .emp | .slice _, .ne | .slice _, .own .. => true
  | .array _ _, .agg _ => true
  | _, _ => false
def min2G : G → G → Option G
  | .int k x, .int _ y => some (.int k (if y < x then y else x))
  | _, _ => none
def max2G : G → G → Option G
  | .int k x, .int _ y => some (.int k (if y > x then y else x))
  | _, _ => none
def foldG (f : G → G → Option G) : G → List G → Option G
  | x, [] => some x
  | x, y :: ys => match f x y with | some z => foldG f z ys | none => none
def byteAt (s : ByteArray) (i : Nat) : Int := ((s.data.toList.getD i 0).toNat : Int)
def boundP (x : Option G) (dflt : Nat) (k : Nat → Int → Prop) : Prop :=
  match x with
  | none => k dflt dflt
  | some (.int _ n) => k n.toNat n
  | some _ => False

def vop (P : Program) (d : Nat) (op : Op) (st : St) (k : G → St → Prop) : Prop :=
  match op with
  | .move x | .assign x => k (st.ev x) st
  | .pick c a b => match st.ev c with
    | .bool t => bif t then k (st.ev a) st else k (st.ev b) st
    | _ => False
  | .alloc t => match zeroCells P t with
    | some cs => bif Nat.blt d st.boxes.length && Nat.blt d st.slots.length then k (.ptr d 0) (st.newBox d cs) else False
    | none => False
  | .box _ x => bif (Nat.blt d st.boxes.length && Nat.blt d st.slots.length) && okReg (st.ev x) then k (.ptr d 0) (st.newBox d (st.ev x).cells) else False
  | .load t x => loadP P t st (st.ev x) fun g => k g st
  | .store t a x => storeP P t st (st.ev a) (st.ev x) fun st' => k .junk st'
  | .binOp op t x y _ => binP P op t (st.ev x) (st.ev y) fun g => k g st
  | .unOp op _ x => unP op (st.ev x) fun g => k g st
  | .build t parts => match P.underlying t, zeroCells P t with
    | some (.struct fs), some cs => bif fs.toList.all (fun f => (P.info? f.type).isSome) then match buildCells (fieldPl P fs) st cs parts.toList with
      | some gs => k (.agg gs) st
      | none => False
      else False
    | some (.array _ e), some cs => bif (P.info? e).isSome then match buildCells (fun i => some (i * P.cellsOf e, P.cellsOf e)) st cs parts.toList with
      | some gs => k (.agg gs) st
      | none => False
      else False
    | _, _ => False
  | .buildSlice t len parts => match P.underlying t with
    | some (.slice e) => match zeroCells P e with
      | some zc => bif (P.cellsOf e == 0) || !(Nat.ble (len * P.cellsOf e) 16777216) then False else
        match buildCells (fun i => some (i * P.cellsOf e, P.cellsOf e)) st (repCells len (P.cellsOf e) zc) parts.toList with
        | some gs => bif gs.all G.closed0 then fLL (chunk len (P.cellsOf e) gs) fun xs => k (.sl xs) st else False
        | none => False
      | none => False
    | _ => False
  | .fieldAddr s x f => match fieldOf P s f with
    | some fl => bif (P.cellsOf fl.type == 0) || (P.info? fl.type).isNone then False else match st.ev x with
      | .ptr b off => k (.ptr b (off + fl.offset)) st
      | .ptrt b _ _ => k (.ptr b (0 + fl.offset)) st
      | .elt row off => k (.elt row (off + fl.offset)) st
      | .eltw kk i off => k (.eltw kk i (off + fl.offset)) st
      | _ => False
    | none => False
  | .field t x f => match fieldOf P t f, st.ev x with
    | some fl, .agg gs => match P.underlying fl.type with
      | some dd => bif Nat.ble (fl.offset + wide P dd fl.type) gs.length then k (rdC P dd fl.type fl.offset gs) st else False
      | none => False
    | _, _ => False
  | .indexAddr t x i => match P.underlying t, st.ev x, st.ev i with
    | some (.slice e), .sl xs, .int _ n => ∃ row, (0 ≤ n ∧ xs[n.toNat]? = some row) ∧ bif (row.length == P.cellsOf e) && (P.info? e).isSome then k (.elt row 0) st else False
    | some (.slice e), .own kk off len, .int _ n => match st.rows.getD kk none with
      | some xs => ∃ row, (0 ≤ n ∧ n < len ∧ xs[off + n.toNat]? = some row) ∧ bif (row.length == P.cellsOf e) && (P.info? e).isSome then k (.eltw kk (off + n.toNat) 0) st else False
      | none => False
    | some (.array len e), .ptr b off, .int _ n => (0 ≤ n ∧ n < len) ∧ bif (P.info? e).isSome then k (.ptr b (off + n.toNat * P.cellsOf e)) st else False
    | _, _, _ => False
  | .index t x i => match P.underlying t, st.ev x, st.ev i with
    | some .string, .str s, .int _ n => (0 ≤ n ∧ n < s.size) ∧ k (.int .u8 (byteAt s n.toNat)) st
    | some (.array len e), .agg gs, .int _ n => match P.underlying e with
      | some dd => bif (gs.length == len * P.cellsOf e) && (wide P dd e == P.cellsOf e) then (0 ≤ n ∧ n < len) ∧ k (rdC P dd e (n.toNat * P.cellsOf e) gs) st else False
      | none => False
    | _, _, _ => False
  | .extract x i => match st.ev x with
    | .tup gs => match gs[i]? with
      | some g => k g st
      | none => False
    | _ => False
  | .nilCheck x => match st.ev x with
    | .ptr b off => k (.ptr b off) st
    | .elt row off => k (.elt row off) st
    | .eltw kk i off => k (.eltw kk i off) st
    | .fn f caps => k (.fn f caps) st
    | .ptrt b T n => k (.ptrt b T n) st
    | _ => False
  | .convert src dst x => match P.underlying src, P.underlying dst, st.ev x with
    | some _, some (.int kd), .int _ n => k (.int kd (kd.wrap n)) st
    | some .string, some .string, .str s => k (.str s) st
    | _, _, _ => False
  | .slice t x lo hi none => match P.underlying t, st.ev x with
    | some .string, .str s => boundP (hi.map st.ev) s.size fun h hz => boundP (lo.map st.ev) 0 fun l lz => (0 ≤ lz ∧ lz ≤ hz ∧ hz ≤ s.size) ∧ k (.str (s.extract l h)) st
    | some (.slice e), .sl xs => bif (P.info? e).isNone then False else boundP (hi.map st.ev) xs.length fun h hz => boundP (lo.map st.ev) 0 fun l lz => (0 ≤ lz ∧ lz ≤ hz ∧ hz ≤ xs.length ∧ ∀ r ∈ xs, r.length = P.cellsOf e) ∧ k (.sl ((xs.take h).drop l)) st
    | _, _ => False
  | .makeFunc (.func f) first caps => bif first.isEmpty && caps.toList.all (fun x => okReg (st.ev x)) then k (.fn f (caps.toList.map st.ev)) st else
    bif caps.isEmpty && first.toList.all (fun x => okReg (st.ev x)) then k (.meth f (first.toList.map st.ev)) st else False
  | .makeInterface t x => match P.underlying t, st.ev x with
    | some (.int _), .int kk n => k (.lit (.iface t (.int kk n))) st
    | some .string, .str s => k (.lit (.iface t (.string s))) st
    | _, _ => False
  | .call { callee := .builtin b, args, argTypes } => match b, args.toList.map st.ev with
    | .len, [x] => match argTypes[0]? with
      | some t => match P.underlying t with
        | some dd => match lenG dd x with
          | some n => bif isStrOrSl dd x then k (.int .i64 n) st else False
          | none => False
        | none => False
      | none => False
    | .min, x :: xs => match foldG min2G x xs with
      | some g => k g st
      | none => False
    | .max, x :: xs => match foldG max2G x xs with
      | some g => k g st
      | none => False
    | _, _ => False
  | _ => False

theorem zG_rep (C : Cx) (w : World) {v : Value} (h : v.oneCell' = true) : (zG v).cell = true ∧ Rep C w (zG v) v := by
  unfold zG
  split
  · exact ⟨rfl, .int ..⟩
  · exact ⟨rfl, .bool ..⟩
  · exact ⟨rfl, .str ..⟩
  · exact ⟨rfl, .nils⟩
  · exact ⟨rfl, .lit _ h⟩
theorem zeroCells_sound {P : Program} {t : TypeId} {cs : List G} (h : zeroCells P t = some cs) (w : World) : ∃ z : Value, (zeroValue t).run P w = .ok z w ∧ z.cells.toList.length = cs.length ∧ cs.length = P.cellsOf t ∧
    (∀ v ∈ z.cells.toList, v.oneCell' = true) ∧ ∀ C w (i : Nat) g v, cs[i]? = some g → z.cells.toList[i]? = some v → g.cell = true ∧ Rep C w g v := by
  unfold zeroCells at h
  split at h
  · rename_i i hi
    split at h
    · rename_i z hz
      split at h
      · rename_i hc
        obtain rfl := Option.some.inj h
        simp only [Bool.and_eq_true, List.all_eq_true, beq_iff_eq] at hc
        refine ⟨z, ?_, by simp, ?_, hc.1, fun C w i g v hg hv => ?_⟩
        · unfold zeroValue
          rw [Sem.run_bind, Go.run_typeInfo w hi, Result.andThen_ok, hz]; rfl
        · rw [List.length_map, hc.2]; simp [Program.cellsOf, hi]
        · rw [List.getElem?_map, hv] at hg
          obtain rfl := Option.some.inj hg
          exact zG_rep C w (hc.1 v (List.mem_of_getElem? hv))
      · cases h
    · cases h
  · cases h

/-- What the operation comes to: a value, or nothing. -/
def Goes (P : Program) (o : Oper) (a : Act) (w : World) (R : Value → World → Prop) : Prop :=
  ∃ v w', ((execOp a.eval o).run P w = .ok (.value v) w' ∨ ((execOp a.eval o).run P w = .ok .skip w' ∧ v = undef)) ∧ R v w'
theorem Goes.wp {P : Program} {o : Oper} {a : Act} {w : World} {R : Value → World → Prop} (h : Goes P o a w R) {K : Act → World → Prop} {Q : Exit → Act → World → Prop} (hk : ∀ v w', R v w' → K (a.put o.dst v) w') : o.wp P a w K Q := by
  obtain ⟨v, w', h | ⟨h, rfl⟩, hR⟩ := h
  · unfold Oper.wp; rw [h]; exact hk _ _ hR
  · unfold Oper.wp; rw [h]; exact hk _ _ hR

def After (F : Fd) (k : G → St → Prop) (a : Act) (v : Value) (w' : World) : Prop := ∃ C' g st', k g st' ∧ Inv C' F st' a w' ∧ Rep C' w' g v

theorem run_bind_ok {P : Program} {α : Type} {s : Sem α} {w w' : World} {v : α} (h : s.run P w = .ok v w') {f : α → Next} : (do pure (f (← s)) : Sem Next).run P w = .ok (f v) w' := by
  rw [Sem.run_bind, h]; rfl

theorem Inv.cellsOf {C : Cx} {F : Fd} {st : St} {a : Act} {w : World} (h : Inv C F st a w) {b : Nat} {cs : List G} (hb : st.boxes.getD b none = some cs) : st.boxes[b]? = some (some cs) := by
  rw [List.getD_eq_getElem?_getD] at hb
  cases hx : st.boxes[b]? with
  | none => rw [hx] at hb; cases hb
  | some o => rw [hx] at hb; simp at hb; rw [hb]
theorem rowsOf {st : St} {k : Nat} {xs : List (List G)} (hb : st.rows.getD k none = some xs) : st.rows[k]? = some (some xs) := by
  rw [List.getD_eq_getElem?_getD] at hb
  cases hx : st.rows[k]? with
  | none => rw [hx] at hb; cases hb
  | some o => rw [hx] at hb; simp at hb; rw [hb]

theorem loadP_sound {P : Program} {t : TypeId} {st : St} {p : G} {k : G → Prop} (h : loadP P t st p k) {C : Cx} {F : Fd} {a : Act} {w : World} (hi : Inv C F st a w) {u : Value} (hp : Rep C w p u) :
    ∃ g v, k g ∧ (Instr.loadAt t u).run P w = .ok v w ∧ Rep C w g v := by
  unfold loadP at h
  split at h
  · exact h.elim
  · rename_i d hu
    split at h
    · rename_i b off
      cases hp with
      | ptr _ _ B hb =>
        split at h
        · rename_i cs hcs
          cases hle : Nat.ble (off + wide P d t) cs.length with
          | false => rw [hle] at h; exact h.elim
          | true =>
            rw [hle] at h
            obtain ⟨B', vs, T, k1, k2, k3, k4, k5, k6⟩ := hi.mem.box b cs (hi.cellsOf hcs)
            rw [hb] at k1; cases k1
            obtain ⟨v, hv, hr⟩ := load_sound (P := P) (C := C) (w := w) (gs := cs) (B := B) (o := 0) (fun j g hg => by
              have hj : j < vs.length := by rw [k4]; exact (List.getElem?_eq_some_iff.1 hg).1
              have hvj : vs[j]? = some vs[j] := List.getElem?_eq_getElem hj
              exact ⟨vs[j], by rw [Nat.zero_add, cell_of_block k3]; exact hvj, (k6 j g _ hg hvj).1, k5 _ (List.getElem_mem hj), (k6 j g _ hg hvj).2⟩) hu off (Nat.le_of_ble_eq_true hle)
            exact ⟨_, v, h, by rw [Nat.zero_add] at hv; simpa [Instr.loadAt, Instr.sureAddr] using hv, hr⟩
        · exact h.elim
    · rename_i row off
      cases hp with
      | elt _ _ B o f hlt hex hcl hcell hr0 =>
        cases hle : Nat.ble (off + wide P d t) row.length with
        | false => rw [hle] at h; exact h.elim
        | true =>
          rw [hle] at h
          obtain ⟨v, hv, hr⟩ := load_sound (P := P) (C := C) (w := w) (gs := row) (B := B) (o := o) (fun j g hg =>
            have hc := hcl g (List.mem_of_getElem? hg)
            ⟨f j, hcell j g hg, closed0_cell hc, (hr0 j g hg).oneCell (closed0_cell hc), hr0 j g hg⟩) hu off (Nat.le_of_ble_eq_true hle)
          exact ⟨_, v, h, by simpa [Instr.loadAt, Instr.sureAddr] using hv, hr⟩
    · rename_i kk i off
      cases hp with
      | eltw _ _ _ B s sz n hk hn0 =>
        split at h
        · rename_i xs hxs
          obtain ⟨row, hrow, h⟩ := h
          cases hle : Nat.ble (off + wide P d t) row.length with
          | false => rw [hle] at h; exact h.elim
          | true =>
            rw [hle] at h
            rcases hi.mem.row kk xs (rowsOf hxs) with k1 | ⟨B', s', sz', n', vs, T, fz, k1, k2, k3, k4, k5, k6, k6b, k7, k8⟩ | km
            rotate_left 2
            · exact (km.np hk hn0).elim
            · rw [hk] at k1; cases k1.1
            · rw [hk] at k1; cases k1
              obtain ⟨hrl, hrc⟩ := k7 row (List.mem_of_getElem? hrow)
              have hi' : i < xs.length := (List.getElem?_eq_some_iff.1 hrow).1
              obtain ⟨v, hv, hr⟩ := load_sound (P := P) (C := C) (w := w) (gs := row) (B := B) (o := s + i * sz) (fun j g hg => by
                have hj0 : j < sz := by rw [← hrl]; exact (List.getElem?_eq_some_iff.1 hg).1
                have hj : s + i * sz + j < vs.length := by
                  have : (i + 1) * sz ≤ n * sz := Nat.mul_le_mul_right _ (by omega)
                  rw [Nat.succ_mul] at this; omega
                have hvj : vs[s + i * sz + j]? = some vs[s + i * sz + j] := List.getElem?_eq_getElem hj
                have hc := hrc g (List.mem_of_getElem? hg)
                exact ⟨_, by rw [cell_of_block k3]; exact hvj, closed0_cell hc, k6b _ (List.getElem_mem hj), k8 i row j g _ hrow hg hvj⟩) hu off (Nat.le_of_ble_eq_true hle)
              exact ⟨_, v, h, by simpa [Instr.loadAt, Instr.sureAddr] using hv, hr⟩
        · exact h.elim
    · exact h.elim

theorem storeP_sound {P : Program} {t : TypeId} {st : St} {p x : G} {k : St → Prop} (h : storeP P t st p x k) {C : Cx} {F : Fd} {a : Act} {w : World} (hi : Inv C F st a w) {u v : Value} (hp : Rep C w p u) (hx : Rep C w x v) :
    ∃ st' w', k st' ∧ (Instr.storeAt t u v).run P w = .ok () w' ∧ Inv C F st' a w' := by
  unfold storeP at h
  split at h
  · exact h.elim
  · rename_i d hu
    split at h
    · rename_i b off
      cases hp with
      | ptr _ _ B hb =>
        split at h
        · rename_i cs hcs
          cases hc : okReg x && (x.cells.length == P.cellsOf t) && Nat.ble (off + P.cellsOf t) cs.length with
          | false => rw [hc] at h; exact h.elim
          | true =>
            rw [hc] at h
            simp only [Bool.and_eq_true, beq_iff_eq] at hc
            obtain ⟨⟨c1, c2⟩, c3⟩ := hc
            have c3 := Nat.le_of_ble_eq_true c3
            obtain ⟨r1, r2, r3⟩ := hx.cells (by
              unfold okReg at c1
              cases x <;> first | exact .inl rfl | exact .inr ⟨_, rfl⟩ | simp [G.cell] at c1)
            obtain ⟨B', vs, T, k1, k2, k3, k4, k5, k6⟩ := hi.mem.box b cs (hi.cellsOf hcs)
            rw [hb] at k1; cases k1
            obtain ⟨w', hw, ho⟩ := run_storeVar_on (P := P) k3 hu (v := v) (o := off) (by rw [r1, c2]) (by omega) r2 (fun p hp => by simp)
            exact ⟨_, w', h, by simpa [Instr.storeAt, Instr.sureAddr] using hw, hi.store (hi.cellsOf hcs) hb k3 ho r1 (by omega) r2 r3⟩
        · exact h.elim
    · exact h.elim
end Go.Proofs.YtcihkmnolagdlaaDoor.Av
