/- Values without memory: what a Go value reads as, an abstract state of a function's slots, own variables and own rows, and when the machine's state is one. No condition. -/
import Derived.Below
import Derived.Laws.StructEq
import Derived.LoopN
import Derived.Orders
import Derived.Scope
import Derived.Laws.Rows
namespace Go.Proofs.YtcihkmnolagdlaaDoor.Av
open Go Go.RowKit
set_option linter.unusedVariables false

inductive G where
  | int (k : IntKind) (n : Int)
  | bool (b : Bool)
  | str (s : ByteArray)
  | lit (v : Value)
  | fn (f : FuncId) (caps : List G)
  | meth (f : FuncId) (gs : List G)
  | agg (gs : List G)
  | tup (gs : List G)
  | sl (xs : List (List G))
  | nils
  | emp
  | ne
  | own (k off len : Nat)
  | ptr (b off : Nat)
  | elt (row : List G) (off : Nat)
  | eltw (k i off : Nat)
  | dat (k : Nat)
  | dead
  | junk
  | und
  | nilt
  | ptrt (b : Nat) (T : TypeId) (n : Nat)
  | ownt (k len : Nat) (T : TypeId)
  | datt (k : Nat) (T : TypeId)
  | mp (k kn fl : Nat)
  deriving Inhabited

def G.cell : G → Bool
  | .agg _ | .tup _ | .junk | .und => false
  | _ => true
/-- A cell that holds no place of the call's own. -/
def G.closed0 : G → Bool
  | .int .. | .bool _ | .str _ | .lit _ | .sl _ | .nils | .emp | .ne => true
  | _ => false
def G.closed1 : G → Bool
  | .agg gs => gs.all G.closed0
  | .elt .. => true
  | g => g.closed0
def G.closed : G → Bool
  | .fn _ caps => caps.all G.closed1
  | .agg gs => gs.all G.closed0
  | .elt .. => true
  | g => g.closed0
def G.cells : G → List G
  | .agg gs => gs
  | g => [g]

/-- Where the own variables and rows lie; which blocks are nobody else's. -/
structure Cx where
  box : Nat → Option Nat
  row : Nat → Option (Option (Nat × Nat × Nat × Nat))   -- block, first cell, cells an element, elements there is room for
  ex : Nat → Prop

inductive Rep (C : Cx) (w : World) : G → Value → Prop
  | int (k : IntKind) (n : Int) : Rep C w (.int k n) (.int k n)
  | bool (b : Bool) : Rep C w (.bool b) (.bool b)
  | str (s : ByteArray) : Rep C w (.str s) (.string s)
  | lit (v : Value) (h : v.oneCell' = true) : Rep C w (.lit v) v
  | fn (f : FuncId) (caps : List G) (vs : List Value) (hl : vs.length = caps.length) (h : ∀ (i : Nat) g v, caps[i]? = some g → vs[i]? = some v → Rep C w g v) :
      Rep C w (.fn f caps) (.func (.func f) #[] ⟨vs⟩)
  | meth (f : FuncId) (gs : List G) (vs : List Value) (hl : vs.length = gs.length) (h : ∀ (i : Nat) g v, gs[i]? = some g → vs[i]? = some v → Rep C w g v) :
      Rep C w (.meth f gs) (.func (.func f) ⟨vs⟩ #[])
  | agg (gs : List G) (vs : List Value) (hl : vs.length = gs.length) (hc : ∀ g ∈ gs, g.cell = true) (hv : ∀ v ∈ vs, v.oneCell' = true) (h : ∀ (i : Nat) g v, gs[i]? = some g → vs[i]? = some v → Rep C w g v) :
      Rep C w (.agg gs) (.agg ⟨vs⟩)
  | tup (gs : List G) (vs : List Value) (hl : vs.length = gs.length) (h : ∀ (i : Nat) g v, gs[i]? = some g → vs[i]? = some v → Rep C w g v) : Rep C w (.tup gs) (.tuple ⟨vs⟩)
  | nils : Rep C w .nils (.slice none 0 0)
  | emp (A : Option Addr) : Rep C w .emp (.slice A 0 0)
  | ne (a : Addr) (cap : Nat) : Rep C w .ne (.slice (some a) 0 cap)
  | slnil (A : Option Addr) (cap : Nat) (h : A = none → cap = 0) : Rep C w (.sl []) (.slice A 0 cap)
  | sl (xs : List (List G)) (a : Addr) (cap sz : Nat) (f : Nat → Nat → Value) (ha : a.spot = none) (hlt : a.block < w.heap.size) (hex : ¬ C.ex a.block) (hcap : xs.length ≤ cap)
      (hsz : ∀ r ∈ xs, r.length = sz) (hcl : ∀ r ∈ xs, ∀ g ∈ r, g.closed0 = true)
      (hcell : ∀ (i : Nat) r (j : Nat) g, xs[i]? = some r → r[j]? = some g → w.cell? ⟨a.block, a.off + i * sz + j, none⟩ = some (f i j))
      (h : ∀ (i : Nat) r (j : Nat) g, xs[i]? = some r → r[j]? = some g → Rep C w g (f i j)) : Rep C w (.sl xs) (.slice (some a) xs.length cap)
  | own (k off len B s sz n : Nat) (a : Addr) (hr : C.row k = some (some (B, s, sz, n))) (ho : off + len ≤ n) (ha : (off < n → a = ⟨B, s + off * sz, none⟩) ∧ a.block = B ∧ a.spot = none) (hn : 0 < n) :
      Rep C w (.own k off len) (.slice (some a) len (n - off))
  | ownnil (k : Nat) (A : Option Addr) (hr : C.row k = some none) : Rep C w (.own k 0 0) (.slice A 0 0)
  | ptr (b off B : Nat) (hb : C.box b = some B) : Rep C w (.ptr b off) (.pointer (some ⟨B, off, none⟩))
  | elt (row : List G) (off : Nat) (B o : Nat) (f : Nat → Value) (hlt : B < w.heap.size) (hex : ¬ C.ex B) (hcl : ∀ g ∈ row, g.closed0 = true)
      (hcell : ∀ (j : Nat) g, row[j]? = some g → w.cell? ⟨B, o + j, none⟩ = some (f j)) (h : ∀ (j : Nat) g, row[j]? = some g → Rep C w g (f j)) :
      Rep C w (.elt row off) (.pointer (some ⟨B, o + off, none⟩))
  | eltw (k i off B s sz n : Nat) (hr : C.row k = some (some (B, s, sz, n))) (hn : 0 < n) : Rep C w (.eltw k i off) (.pointer (some ⟨B, s + i * sz + off, none⟩))
  | dat (k B s sz n : Nat) (hn : 0 < n) (hr : C.row k = some (some (B, s, sz, n))) : Rep C w (.dat k) (.pointer (some ⟨B, s, none⟩))
  | datnil (k : Nat) (p : Option Addr) (hr : C.row k = some none) : Rep C w (.dat k) (.pointer p)
  | dead (v : Value) (h : v.oneCell' = true) : Rep C w .dead v
  | junk (v : Value) : Rep C w .junk v
  | und : Rep C w .und undef
  | nilt : Rep C w .nilt (.slice none 0 0)
  | ptrt (b : Nat) (T : TypeId) (n : Nat) (B : Nat) (vs : Array Value) (fz : Nat × Nat) (hb : C.box b = some B) (ht : w.heap[B]? = some (.cells vs T fz)) (hn : vs.size = n) : Rep C w (.ptrt b T n) (.pointer (some ⟨B, 0, none⟩))
  | ownt (k len : Nat) (T : TypeId) (B n : Nat) (vs : Array Value) (fz : Nat × Nat) (hr : C.row k = some (some (B, 0, 1, n))) (ho : len ≤ n) (ht : w.heap[B]? = some (.cells vs T fz)) : Rep C w (.ownt k len T) (.slice (some ⟨B, 0, none⟩) len n)
  | owntnil (k : Nat) (T : TypeId) (hr : C.row k = some none) : Rep C w (.ownt k 0 T) (.slice none 0 0)
  | datt (k : Nat) (T : TypeId) (B n : Nat) (vs : Array Value) (fz : Nat × Nat) (hr : C.row k = some (some (B, 0, 1, n))) (ht : w.heap[B]? = some (.cells vs T fz)) : Rep C w (.datt k T) (.pointer (some ⟨B, 0, none⟩))
  | dattnil (k : Nat) (T : TypeId) (hr : C.row k = some none) : Rep C w (.datt k T) (.pointer none)
  | mp (k kn fl B : Nat) (hr : C.row k = some (some (B, kn, fl, 0))) : Rep C w (.mp k kn fl) (.map (some B))

/-- The worlds' step that leaves what is readable as it was. -/
structure Keeps (ex : Nat → Prop) (w w' : World) : Prop where
  size : w.heap.size ≤ w'.heap.size
  block : ∀ B, B < w.heap.size → ¬ ex B → w'.heap[B]? = w.heap[B]?
  ty : ∀ (B : Nat) (vs : Array Value) (T : TypeId) (fz : Nat × Nat), w.heap[B]? = some (.cells vs T fz) → ∃ vs' fz', w'.heap[B]? = some (.cells vs' T fz') ∧ vs'.size = vs.size

theorem Keeps.refl (ex : Nat → Prop) (w : World) : Keeps ex w w := ⟨Nat.le_refl _, fun _ _ _ => rfl, fun _ vs _ fz h => ⟨vs, fz, h, rfl⟩⟩
theorem Keeps.cell {ex : Nat → Prop} {w w' : World} (h : Keeps ex w w') {a : Addr} (ha : a.block < w.heap.size) (he : ¬ ex a.block) : w'.cell? a = w.cell? a := by
  unfold World.cell?; rw [h.block _ ha he]
theorem Keeps.mono {ex ex' : Nat → Prop} {w w' : World} (h : Keeps ex w w') (he : ∀ B, ex B → ex' B) : Keeps ex' w w' :=
  ⟨h.size, fun B hB hn => h.block B hB (fun hx => hn (he B hx)), h.ty⟩

/-- Values that hold places of the call's own: which. -/
def G.hasBox (b : Nat) : G → Bool
  | .ptr b' _ => b' == b
  | .agg gs => gs.any fun | .ptr b' _ => b' == b | .fn .. => true | _ => false
  | .tup _ | .fn .. => true
  | _ => false

theorem closed0_cell {g : G} (h : g.closed0 = true) : g.cell = true := by cases g <;> simp_all [G.closed0, G.cell]

/-- A closed cell reads the same in a world that keeps what is readable, wherever own things lie. -/
theorem Rep.keep0 {C C' : Cx} {w w' : World} {g : G} {v : Value} (h : Rep C w g v) (hg : g.closed0 = true) (hk : Keeps C.ex w w')
    (hx : ∀ B, B < w.heap.size → ¬ C.ex B → ¬ C'.ex B) : Rep C' w' g v := by
  induction h with
  | int k n => exact .int k n
  | bool b => exact .bool b
  | str s => exact .str s
  | lit v h => exact .lit v h
  | nils => exact .nils
  | emp A => exact .emp A
  | ne a cap => exact .ne a cap
  | slnil A cap h => exact .slnil A cap h
  | sl xs a cap sz f ha hlt hex hcap hsz hcl hcell h ih =>
    refine .sl xs a cap sz f ha (Nat.lt_of_lt_of_le hlt hk.size) (hx _ hlt hex) hcap hsz hcl (fun i r j g h1 h2 => ?_) (fun i r j g h1 h2 => ?_)
    · rw [hk.cell (a := ⟨a.block, a.off + i * sz + j, none⟩) hlt hex]; exact hcell i r j g h1 h2
    · exact ih i r j g h1 h2 (hcl r (List.mem_of_getElem? h1) g (List.mem_of_getElem? h2))
  | _ => simp [G.closed0] at hg

/-- Any value reads the same where own things lie as they did, and what is readable is kept. -/
theorem Rep.keep {C C' : Cx} {w w' : World} {g : G} {v : Value} (h : Rep C w g v) (hk : Keeps C.ex w w') (hx : ∀ B, B < w.heap.size → ¬ C.ex B → ¬ C'.ex B)
    (hb : ∀ b B, C.box b = some B → C'.box b = some B) (hr : ∀ k r, C.row k = some r → C'.row k = some r) : Rep C' w' g v := by
  induction h with
  | int k n => exact .int k n
  | bool b => exact .bool b
  | str s => exact .str s
  | lit v h => exact .lit v h
  | fn f caps vs hl h ih => exact .fn f caps vs hl ih
  | meth f caps vs hl h ih => exact .meth f caps vs hl ih
  | agg gs vs hl hc hv h ih => exact .agg gs vs hl hc hv ih
  | tup gs vs hl h ih => exact .tup gs vs hl ih
  | nils => exact .nils
  | emp A => exact .emp A
  | ne a cap => exact .ne a cap
  | slnil A cap h => exact .slnil A cap h
  | sl xs a cap sz f ha hlt hex hcap hsz hcl hcell h ih =>
    refine .sl xs a cap sz f ha (Nat.lt_of_lt_of_le hlt hk.size) (hx _ hlt hex) hcap hsz hcl (fun i r j g h1 h2 => ?_) (fun i r j g h1 h2 => ih i r j g h1 h2)
    rw [hk.cell (a := ⟨a.block, a.off + i * sz + j, none⟩) hlt hex]; exact hcell i r j g h1 h2
  | own k off len B s sz n a hr0 ho ha hn => exact .own k off len B s sz n a (hr _ _ hr0) ho ha hn
  | ownnil k A hr0 => exact .ownnil k A (hr _ _ hr0)
  | ptr b off B hb0 => exact .ptr b off B (hb _ _ hb0)
  | elt row off B o f hlt hex hcl hcell h ih =>
    exact .elt row off B o f (Nat.lt_of_lt_of_le hlt hk.size) (hx _ hlt hex) hcl (fun j g h1 => by rw [hk.cell (a := ⟨B, o + j, none⟩) hlt hex]; exact hcell j g h1) ih
  | eltw k i off B s sz n hr0 hn => exact .eltw k i off B s sz n (hr _ _ hr0) hn
  | dat k B s sz n hn hr0 => exact .dat k B s sz n hn (hr _ _ hr0)
  | datnil k p hr0 => exact .datnil k p (hr _ _ hr0)
  | dead v h => exact .dead v h
  | junk v => exact .junk v
  | und => exact .und
  | nilt => exact .nilt
  | ptrt b T n B vs fz hb0 ht hn => obtain ⟨vs', fz', h', hs⟩ := hk.ty _ _ _ _ ht; exact .ptrt b T n B vs' fz' (hb _ _ hb0) h' (hs.trans hn)
  | ownt k len T B n vs fz hr0 ho ht => obtain ⟨vs', fz', h', _⟩ := hk.ty _ _ _ _ ht; exact .ownt k len T B n vs' fz' (hr _ _ hr0) ho h'
  | owntnil k T hr0 => exact .owntnil k T (hr _ _ hr0)
  | datt k T B n vs fz hr0 ht => obtain ⟨vs', fz', h', _⟩ := hk.ty _ _ _ _ ht; exact .datt k T B n vs' fz' (hr _ _ hr0) h'
  | dattnil k T hr0 => exact .dattnil k T (hr _ _ hr0)
  | mp k kn fl B hr0 => exact .mp k kn fl B (hr _ _ hr0)

theorem Rep.oneCell {C : Cx} {w : World} {g : G} {v : Value} (h : Rep C w g v) (hc : g.cell = true) : v.oneCell' = true := by
  cases h <;> first | rfl | assumption | (simp [G.cell] at hc; done)

/-! Killing: the values that name an own variable, or an own row, become dead. -/
def kB0 (b : Nat) : G → G
  | .ptr b' o => if b' = b then .dead else .ptr b' o
  | .ptrt b' T n => if b' = b then .dead else .ptrt b' T n
  | .fn .. => .junk
  | .meth .. => .dead
  | g => g
def kBc (b : Nat) : G → G
  | .ptr b' o => if b' = b then .dead else .ptr b' o
  | .ptrt b' T n => if b' = b then .dead else .ptrt b' T n
  | .fn f [] => .fn f []
  | .fn .. => .dead
  | .meth .. => .dead
  | g => g
def kBa (b : Nat) : G → G
  | .agg gs => .agg (gs.map (kBc b))
  | .tup gs => .junk
  | g => kBc b g
def kB1 (b : Nat) : G → G
  | .fn f caps => .fn f (caps.map (kBa b))
  | g => kBa b g
def kR0 (k : Nat) : G → G
  | .own k' o l => if k' = k then .dead else .own k' o l
  | .eltw k' i o => if k' = k then .dead else .eltw k' i o
  | .dat k' => if k' = k then .dead else .dat k'
  | .ownt k' l T => if k' = k then .dead else .ownt k' l T
  | .datt k' T => if k' = k then .dead else .datt k' T
  | .mp k' n f => if k' = k then .dead else .mp k' n f
  | .fn f [] => .fn f []
  | .fn .. => .dead
  | .meth .. => .dead
  | g => g
def kRa (k : Nat) : G → G
  | .agg gs => .agg (gs.map (kR0 k))
  | .tup gs => .junk
  | g => kR0 k g
def kR1 (k : Nat) : G → G
  | .fn f caps => .fn f (caps.map (kRa k))
  | g => kRa k g

structure St where
  slots : List G
  boxes : List (Option (List G))
  rows : List (Option (List (List G)))

def St.put (st : St) (d : Option Tmp) (g : G) : St :=
  match d with
  | some d => { st with slots := st.slots.set d g }
  | none => st
def constG : Value → G
  | .int k n => .int k n
  | .bool b => .bool b
  | .string s => .str s
  | .slice none 0 0 => .nils
  | v => if v.oneCell' then .lit v else .junk
def St.ev (st : St) : Operand → G
  | .tmp t => st.slots.getD t .junk
  | .const v => constG v
  | .global g => .lit (.pointer (some ⟨g, 0, none⟩))
  | .func f => .fn f []
def St.killB (st : St) (b : Nat) : St :=
  { st with slots := st.slots.map (kB1 b), boxes := (st.boxes.map fun o => o.map fun cs => cs.map (kBc b)).set b none }
def St.killR (st : St) (k : Nat) : St :=
  { st with slots := st.slots.map (kR1 k), boxes := st.boxes.map fun o => o.map fun cs => cs.map (kR0 k), rows := st.rows.set k none }

/-- Cells that read as these: of an aggregate, or of one cell. -/
def CellsAs (C : Cx) (w : World) (ag : Bool) (gs : List G) (v : Value) : Prop :=
  (ag = true ∧ ∃ vs : List Value, v = .agg ⟨vs⟩ ∧ vs.length = gs.length ∧ (∀ u ∈ vs, u.oneCell' = true) ∧ ∀ (i : Nat) g u, gs[i]? = some g → vs[i]? = some u → Rep C w g u) ∨
  (ag = false ∧ ∃ g, gs = [g] ∧ v.oneCell' = true ∧ Rep C w g v)
/-- An own map: its entries as rows, the key's cells (kn of them) and the value's. (fl: whether the key, and the value, are aggregates.) -/
def MapAt (C : Cx) (w : World) (k : Nat) (xs : List (List G)) : Prop :=
  ∃ (B kn fl : Nat) (es : Array MapEntry) (clock : Nat), C.row k = some (some (B, kn, fl, 0)) ∧ C.ex B ∧ w.heap[B]? = some (.map es clock) ∧ es.toList.length = xs.length ∧
    ∀ (i : Nat) e r, es.toList[i]? = some e → xs[i]? = some r → (∀ g ∈ r, g.closed0 = true) ∧ kn ≤ r.length ∧ CellsAs C w (fl.testBit 0) (r.take kn) e.key ∧ CellsAs C w (fl.testBit 1) (r.drop kn) e.val
theorem CellsAs.mono {C C' : Cx} {w w' : World} {ag : Bool} {gs : List G} {v : Value} (h : CellsAs C w ag gs v) (hk : ∀ g ∈ gs, ∀ u, Rep C w g u → Rep C' w' g u) : CellsAs C' w' ag gs v := by
  rcases h with ⟨h0, vs, h1, h2, h3, h4⟩ | ⟨h0, g, h1, h2, h3⟩
  · exact .inl ⟨h0, vs, h1, h2, h3, fun i g u hg hu => hk g (List.mem_of_getElem? hg) u (h4 i g u hg hu)⟩
  · exact .inr ⟨h0, g, h1, h2, hk g (by rw [h1]; simp) v h3⟩
theorem MapAt.moveM {C C' : Cx} {w w' : World} {k k' : Nat} {xs : List (List G)} (h : MapAt C w k xs) (hr : ∀ q, C.row k = some q → C'.row k' = some q) (he : ∀ B q, C.row k = some (some (B, q)) → C.ex B → C'.ex B)
    (hh : ∀ B q, C.row k = some (some (B, q)) → w'.heap[B]? = w.heap[B]?) (hk : ∀ r ∈ xs, ∀ g ∈ r, ∀ u, g.closed0 = true → Rep C w g u → Rep C' w' g u) : MapAt C' w' k' xs := by
  obtain ⟨B, kn, fl, es, clock, h1, h2, h3, h4, h5⟩ := h
  refine ⟨B, kn, fl, es, clock, hr _ h1, he _ _ h1 h2, by rw [hh _ _ h1]; exact h3, h4, fun i e r hi hx => ?_⟩
  obtain ⟨k1, k2, k3, k4⟩ := h5 i e r hi hx
  have hm := List.mem_of_getElem? hx
  exact ⟨k1, k2, k3.mono fun g hg u hu => hk r hm g (List.mem_of_mem_take hg) u (k1 g (List.mem_of_mem_take hg)) hu, k4.mono fun g hg u hu => hk r hm g (List.mem_of_mem_drop hg) u (k1 g (List.mem_of_mem_drop hg)) hu⟩
theorem MapAt.move {C C' : Cx} {w w' : World} {k k' : Nat} {xs : List (List G)} (h : MapAt C w k xs) (hr : ∀ q, C.row k = some q → C'.row k' = some q) (he : ∀ B q, C.row k = some (some (B, q)) → C.ex B → C'.ex B)
    (hh : ∀ B q, C.row k = some (some (B, q)) → w'.heap[B]? = w.heap[B]?) (hk : ∀ g u, g.closed0 = true → Rep C w g u → Rep C' w' g u) : MapAt C' w' k' xs :=
  h.moveM hr he hh fun _ _ g _ u hg hu => hk g u hg hu
theorem MapAt.n0 {C : Cx} {w : World} {k : Nat} {xs : List (List G)} (h : MapAt C w k xs) {B s sz n : Nat} (hr : C.row k = some (some (B, s, sz, n))) : n = 0 := by
  obtain ⟨B', kn, fl, es, clock, h1, _⟩ := h; rw [hr] at h1; cases h1; rfl
theorem MapAt.nn {C : Cx} {w : World} {k : Nat} {xs : List (List G)} (h : MapAt C w k xs) (hr : C.row k = some none) : False := by
  obtain ⟨B', kn, fl, es, clock, h1, _⟩ := h; rw [hr] at h1; cases h1
theorem MapAt.np {C : Cx} {w : World} {k : Nat} {xs : List (List G)} (h : MapAt C w k xs) {B s sz n : Nat} (hr : C.row k = some (some (B, s, sz, n))) (hn : 0 < n) : False := by
  have := h.n0 hr; omega
theorem MapAt.nT {C : Cx} {w : World} {k : Nat} {xs : List (List G)} (h : MapAt C w k xs) {B s sz n : Nat} (hr : C.row k = some (some (B, s, sz, n))) {vs : Array Value} {T : TypeId} {fz : Nat × Nat} (ht : w.heap[B]? = some (.cells vs T fz)) : False := by
  obtain ⟨B', kn, fl, es, clock, h1, _, h3, _⟩ := h; rw [hr] at h1; cases h1; rw [ht] at h3; cases h3
theorem Rep.own_nm {C : Cx} {w : World} {k off len : Nat} {u : Value} (h : Rep C w (.own k off len) u) {xs : List (List G)} : ¬ MapAt C w k xs := fun km => by
  cases h with
  | own _ _ _ B s sz n a hr ho ha hn => exact km.np hr hn
  | ownnil _ A hr => exact km.nn hr
structure Mem (C : Cx) (w : World) (bs : List (Option (List G))) (rs : List (Option (List (List G)))) : Prop where
  box : ∀ (b : Nat) cs, bs[b]? = some (some cs) → ∃ B vs T, C.box b = some B ∧ C.ex B ∧ w.heap[B]? = some (.cells ⟨vs⟩ T (0, 0)) ∧ vs.length = cs.length ∧
    (∀ v ∈ vs, v.oneCell' = true) ∧ ∀ (i : Nat) g v, cs[i]? = some g → vs[i]? = some v → g.cell = true ∧ Rep C w g v
  row : ∀ (k : Nat) xs, rs[k]? = some (some xs) → (C.row k = some none ∧ xs = []) ∨ (∃ B s sz n vs T fz, C.row k = some (some (B, s, sz, n)) ∧ C.ex B ∧
    w.heap[B]? = some (.cells ⟨vs⟩ T fz) ∧ s + n * sz ≤ vs.length ∧ (0 < xs.length ∧ xs.length ≤ n) ∧ (∀ o, o < vs.length → ¬ (fz.1 ≤ o ∧ o < fz.2)) ∧ (∀ v ∈ vs, v.oneCell' = true) ∧
    (∀ r ∈ xs, r.length = sz ∧ ∀ g ∈ r, g.closed0 = true) ∧ ∀ (i : Nat) r (j : Nat) g v, xs[i]? = some r → r[j]? = some g → vs[s + i * sz + j]? = some v → Rep C w g v) ∨ MapAt C w k xs
  domB : ∀ b B, C.box b = some B → ∃ cs, bs[b]? = some (some cs)
  domR : ∀ k r, C.row k = some r → ∃ xs, rs[k]? = some (some xs)
  bb : ∀ b b' B, C.box b = some B → C.box b' = some B → b = b'
  rr : ∀ k k' B s sz n s' sz' n', C.row k = some (some (B, s, sz, n)) → C.row k' = some (some (B, s', sz', n')) → k = k'
  br : ∀ b k B s sz n, C.box b = some B → C.row k = some (some (B, s, sz, n)) → False
  lt : ∀ B, C.ex B → B < w.heap.size

theorem Mem.row2 {C : Cx} {w : World} {bs : List (Option (List G))} {rs : List (Option (List (List G)))} (h : Mem C w bs rs) {k : Nat} {xs : List (List G)} (hx : rs[k]? = some (some xs)) (hm : ¬ MapAt C w k xs) :
    (C.row k = some none ∧ xs = []) ∨ ∃ B s sz n vs T fz, C.row k = some (some (B, s, sz, n)) ∧ C.ex B ∧
    w.heap[B]? = some (.cells ⟨vs⟩ T fz) ∧ s + n * sz ≤ vs.length ∧ (0 < xs.length ∧ xs.length ≤ n) ∧ (∀ o, o < vs.length → ¬ (fz.1 ≤ o ∧ o < fz.2)) ∧ (∀ v ∈ vs, v.oneCell' = true) ∧
    (∀ r ∈ xs, r.length = sz ∧ ∀ g ∈ r, g.closed0 = true) ∧ ∀ (i : Nat) r (j : Nat) g v, xs[i]? = some r → r[j]? = some g → vs[s + i * sz + j]? = some v → Rep C w g v := by
  rcases h.row k xs hx with h1 | h1 | h1
  · exact .inl h1
  · exact .inr h1
  · exact absurd h1 hm
/-- What was there when the call began has not turned, but for the blocks that it was handed. -/
structure Fr (t0 : Nat → Prop) (w w' : World) : Prop where
  os : w'.os = w.os
  tape : w'.tape = w.tape
  output : w'.output = w.output
  size : w.heap.size ≤ w'.heap.size
  block : ∀ B, B < w.heap.size → ¬ t0 B → w'.heap[B]? = w.heap[B]?
  ty : ∀ (B : Nat) (vs : Array Value) (T : TypeId) (fz : Nat × Nat), w.heap[B]? = some (.cells vs T fz) → ∃ vs' fz', w'.heap[B]? = some (.cells vs' T fz') ∧ vs'.size = vs.size

theorem Fr.ty2 {t0 t1 : Nat → Prop} {w0 w w' : World} (h : Fr t0 w0 w) (h' : Fr t1 w w') (B : Nat) (vs : Array Value) (T : TypeId) (fz : Nat × Nat) (hB : w0.heap[B]? = some (.cells vs T fz)) : ∃ vs' fz', w'.heap[B]? = some (.cells vs' T fz') ∧ vs'.size = vs.size := by
  obtain ⟨v1, z1, g1, g2⟩ := h.ty _ _ _ _ hB
  obtain ⟨v2, z2, g3, g4⟩ := h'.ty _ _ _ _ g1
  exact ⟨v2, z2, g3, g4.trans g2⟩
/-- Blocks of the program's own tables: as they lie when the call begins, and stay. (A list of the seat's own; none where no table is read.) -/
def fixK : List (Nat × List Value) := [(1, ([1, 10, 100, 1000, 10000, 100000, 1000000, 10000000, 100000000, 1000000000, 10000000000, 100000000000, 1000000000000, 10000000000000, 100000000000000, 1000000000000000, 10000000000000000, 100000000000000000, 1000000000000000000, 10000000000000000000] : List Int).map fun z => Value.int .u64 z)]
def Fixed (w : World) (ex : Nat → Prop) : Prop := ∀ p ∈ fixK, p.1 < w.heap.size ∧ ¬ ex p.1 ∧ ∃ T fz, w.heap[p.1]? = some (.cells ⟨p.2⟩ T fz)
structure Fd where
  w0 : World
  t0 : Nat → Prop
  ex0 : Nat → Prop
  fb : Nat → Option Nat
  fix : Fixed w0 ex0

structure Inv (C : Cx) (F : Fd) (st : St) (a : Act) (w : World) : Prop where
  nd : a.defers = []
  sz : a.tmps.size = st.slots.length
  slots : ∀ (i : Nat) g v, st.slots[i]? = some g → a.tmps[i]? = some v → Rep C w g v
  mem : Mem C w st.boxes st.rows
  fr : Fr F.t0 F.w0 w
  ex0 : ∀ B, F.ex0 B → C.ex B
  exn : ∀ B, C.ex B → F.ex0 B ∨ F.w0.heap.size ≤ B
  t0 : ∀ B, F.t0 B → F.ex0 B
  tb : ∀ b B, C.box b = some B → F.t0 B ∨ F.w0.heap.size ≤ B
  tr : ∀ k B s sz n, C.row k = some (some (B, s, sz, n)) → F.t0 B ∨ F.w0.heap.size ≤ B
  fb : ∀ b B, F.fb b = some B → C.box b = some B ∧ st.slots.length + 8 ≤ b

theorem Fixed.sub {w : World} {ex ex' : Nat → Prop} (h : Fixed w ex) (hs : ∀ B, ex' B → ex B) : Fixed w ex' := fun p hp => ⟨(h p hp).1, fun hx => (h p hp).2.1 (hs _ hx), (h p hp).2.2⟩
theorem Inv.fixed {C : Cx} {F : Fd} {st : St} {a : Act} {w : World} (h : Inv C F st a w) : Fixed w C.ex := fun p hp => by
  obtain ⟨h1, h2, T, fz, h3⟩ := F.fix p hp
  refine ⟨Nat.lt_of_lt_of_le h1 h.fr.size, fun hx => ?_, T, fz, ?_⟩
  · rcases h.exn p.1 hx with hx | hx
    · exact h2 hx
    · omega
  · rw [h.fr.block p.1 h1 (fun ht => h2 (h.t0 _ ht))]; exact h3
theorem Inv.ev {C : Cx} {F : Fd} {st : St} {a : Act} {w : World} (h : Inv C F st a w) (x : Operand) : Rep C w (st.ev x) (a.eval x) := by
  cases x with
  | tmp t =>
    simp only [St.ev, Act.eval]
    by_cases ht : t < st.slots.length
    · have h1 : st.slots[t]? = some (st.slots.getD t .junk) := by rw [List.getD_eq_getElem?_getD, List.getElem?_eq_getElem ht]; rfl
      have h2 : a.tmps[t]? = some (a.tmps.getD t undef) := by
        rw [Array.getD_eq_getD_getElem?, Array.getElem?_eq_getElem (by rw [h.sz]; exact ht)]; rfl
      exact h.slots t _ _ h1 h2
    · rw [List.getD_eq_getElem?_getD, List.getElem?_eq_none (Nat.le_of_not_lt ht)]; exact .junk _
  | const v =>
    simp only [Act.eval, St.ev]
    unfold constG
    split
    · exact .int ..
    · exact .bool ..
    · exact .str ..
    · exact .nils
    · split
      · exact .lit _ (by assumption)
      · exact .junk _
  | global g => exact .lit _ rfl
  | func f => exact .fn f [] [] rfl (fun i g v h => by simp at h)
end Go.Proofs.YtcihkmnolagdlaaDoor.Av
