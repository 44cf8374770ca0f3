/- One text out of several: Av, Av1, Av2, Av3, Av4, Av5, Av6, Av7. No condition but theirs. -/
import Derived.Below
import Derived.Laws.StructEq
import Derived.LoopN
import Derived.Orders
import Derived.Scope
import Derived.Laws.Rows
import Derived.Laws.Cells
import Derived.Laws.Entries
import Derived.ChangeKeysEq
namespace Go.Proofs.YtijohhdgecadnaaDoor.Av
open Go Go.RowKit
set_option linter.unusedVariables false

inductive G where
  | int (k : IntKind) (n : Int)
  | bool (b : Bool)
  | str (s : ByteArray)
  | lit (v : Value)
  | fn (f : FuncId) (caps : List G)
  | meth (f : FuncId) (gs : List G)
  | agg (gs : List G)
  | tup (gs : List G)
  | sl (xs : List (List G))
  | nils
  | emp
  | ne
  | own (k off len : Nat)
  | ptr (b off : Nat)
  | elt (row : List G) (off : Nat)
  | eltw (k i off : Nat)
  | dat (k : Nat)
  | dead
  | junk
  | und
  | nilt
  | ptrt (b : Nat) (T : TypeId) (n : Nat)
  | ownt (k len : Nat) (T : TypeId)
  | datt (k : Nat) (T : TypeId)
  | mp (k kn fl : Nat)
  | ownf (k off len N : Nat)
  deriving Inhabited

def G.cell : G → Bool
  | .agg _ | .tup _ | .junk | .und => false
  | _ => true
/-- A cell that holds no place of the call's own. -/
def G.closed0 : G → Bool
  | .int .. | .bool _ | .str _ | .lit _ | .sl _ | .nils | .emp | .ne | .elt .. => true
  | _ => false
def G.closed1 : G → Bool
  | .agg gs => gs.all G.closed0
  | .elt .. => true
  | g => g.closed0
def G.closed : G → Bool
  | .fn _ caps => caps.all G.closed1
  | .agg gs => gs.all G.closed0
  | .elt .. => true
  | g => g.closed0
def G.cells : G → List G
  | .agg gs => gs
  | g => [g]

/-- Where the own variables and rows lie; which blocks are nobody else's. -/
structure Cx where
  box : Nat → Option Nat
  row : Nat → Option (Option (Nat × Nat × Nat × Nat))   -- block, first cell, cells an element, elements there is room for
  ex : Nat → Prop

inductive Rep (C : Cx) (w : World) : G → Value → Prop
  | int (k : IntKind) (n : Int) : Rep C w (.int k n) (.int k n)
  | bool (b : Bool) : Rep C w (.bool b) (.bool b)
  | str (s : ByteArray) : Rep C w (.str s) (.string s)
  | lit (v : Value) (h : v.oneCell' = true) : Rep C w (.lit v) v
  | fn (f : FuncId) (caps : List G) (vs : List Value) (hl : vs.length = caps.length) (h : ∀ (i : Nat) g v, caps[i]? = some g → vs[i]? = some v → Rep C w g v) :
      Rep C w (.fn f caps) (.func (.func f) #[] ⟨vs⟩)
  | meth (f : FuncId) (gs : List G) (vs : List Value) (hl : vs.length = gs.length) (h : ∀ (i : Nat) g v, gs[i]? = some g → vs[i]? = some v → Rep C w g v) :
      Rep C w (.meth f gs) (.func (.func f) ⟨vs⟩ #[])
  | agg (gs : List G) (vs : List Value) (hl : vs.length = gs.length) (hc : ∀ g ∈ gs, g.cell = true) (hv : ∀ v ∈ vs, v.oneCell' = true) (h : ∀ (i : Nat) g v, gs[i]? = some g → vs[i]? = some v → Rep C w g v) :
      Rep C w (.agg gs) (.agg ⟨vs⟩)
  | tup (gs : List G) (vs : List Value) (hl : vs.length = gs.length) (h : ∀ (i : Nat) g v, gs[i]? = some g → vs[i]? = some v → Rep C w g v) : Rep C w (.tup gs) (.tuple ⟨vs⟩)
  | nils : Rep C w .nils (.slice none 0 0)
  | emp (A : Option Addr) : Rep C w .emp (.slice A 0 0)
  | ne (a : Addr) (cap : Nat) : Rep C w .ne (.slice (some a) 0 cap)
  | slnil (A : Option Addr) (cap : Nat) (h : A = none → cap = 0) : Rep C w (.sl []) (.slice A 0 cap)
  | sl (xs : List (List G)) (a : Addr) (cap sz : Nat) (f : Nat → Nat → Value) (ha : a.spot = none) (hlt : a.block < w.heap.size) (hex : ¬ C.ex a.block) (hcap : xs.length ≤ cap)
      (hsz : ∀ r ∈ xs, r.length = sz) (hcl : ∀ r ∈ xs, ∀ g ∈ r, g.closed0 = true)
      (hcell : ∀ (i : Nat) r (j : Nat) g, xs[i]? = some r → r[j]? = some g → w.cell? ⟨a.block, a.off + i * sz + j, none⟩ = some (f i j))
      (h : ∀ (i : Nat) r (j : Nat) g, xs[i]? = some r → r[j]? = some g → Rep C w g (f i j)) : Rep C w (.sl xs) (.slice (some a) xs.length cap)
  | own (k off len B s sz n : Nat) (a : Addr) (hr : C.row k = some (some (B, s, sz, n))) (ho : off + len ≤ n) (ha : (off < n → a = ⟨B, s + off * sz, none⟩) ∧ a.block = B ∧ a.spot = none) (hn : 0 < n) :
      Rep C w (.own k off len) (.slice (some a) len (n - off))
  | ownnil (k : Nat) (A : Option Addr) (hr : C.row k = some none) : Rep C w (.own k 0 0) (.slice A 0 0)
  | ptr (b off B : Nat) (hb : C.box b = some B) : Rep C w (.ptr b off) (.pointer (some ⟨B, off, none⟩))
  | elt (row : List G) (off : Nat) (B o : Nat) (f : Nat → Value) (hlt : B < w.heap.size) (hex : ¬ C.ex B) (hcl : ∀ g ∈ row, g.closed0 = true)
      (hcell : ∀ (j : Nat) g, row[j]? = some g → w.cell? ⟨B, o + j, none⟩ = some (f j)) (h : ∀ (j : Nat) g, row[j]? = some g → Rep C w g (f j)) :
      Rep C w (.elt row off) (.pointer (some ⟨B, o + off, none⟩))
  | eltw (k i off B s sz n : Nat) (hr : C.row k = some (some (B, s, sz, n))) (hn : 0 < n) : Rep C w (.eltw k i off) (.pointer (some ⟨B, s + i * sz + off, none⟩))
  | dat (k B s sz n : Nat) (hn : 0 < n) (hr : C.row k = some (some (B, s, sz, n))) : Rep C w (.dat k) (.pointer (some ⟨B, s, none⟩))
  | datnil (k : Nat) (p : Option Addr) (hr : C.row k = some none) : Rep C w (.dat k) (.pointer p)
  | dead (v : Value) (h : v.oneCell' = true) : Rep C w .dead v
  | junk (v : Value) : Rep C w .junk v
  | und : Rep C w .und undef
  | nilt : Rep C w .nilt (.slice none 0 0)
  | ptrt (b : Nat) (T : TypeId) (n : Nat) (B : Nat) (vs : Array Value) (fz : Nat × Nat) (hb : C.box b = some B) (ht : w.heap[B]? = some (.cells vs T fz)) (hn : vs.size = n) : Rep C w (.ptrt b T n) (.pointer (some ⟨B, 0, none⟩))
  | ownt (k len : Nat) (T : TypeId) (B n : Nat) (vs : Array Value) (fz : Nat × Nat) (hr : C.row k = some (some (B, 0, 1, n))) (ho : len ≤ n) (ht : w.heap[B]? = some (.cells vs T fz)) : Rep C w (.ownt k len T) (.slice (some ⟨B, 0, none⟩) len n)
  | owntnil (k : Nat) (T : TypeId) (hr : C.row k = some none) : Rep C w (.ownt k 0 T) (.slice none 0 0)
  | datt (k : Nat) (T : TypeId) (B n : Nat) (vs : Array Value) (fz : Nat × Nat) (hr : C.row k = some (some (B, 0, 1, n))) (ht : w.heap[B]? = some (.cells vs T fz)) : Rep C w (.datt k T) (.pointer (some ⟨B, 0, none⟩))
  | dattnil (k : Nat) (T : TypeId) (hr : C.row k = some none) : Rep C w (.datt k T) (.pointer none)
  | ownf (k off len B s sz N : Nat) (a : Addr) (hr : C.row k = some (some (B, s, sz, N))) (ho : off + len ≤ N) (ha : (off < N → a = ⟨B, s + off * sz, none⟩) ∧ a.block = B ∧ a.spot = none) (hn : 0 < N) :
      Rep C w (.ownf k off len N) (.slice (some a) len (N - off))
  | mp (k kn fl B : Nat) (hr : C.row k = some (some (B, kn, fl, 0))) : Rep C w (.mp k kn fl) (.map (some B))

/-- The worlds' step that leaves what is readable as it was. -/
structure Keeps (ex : Nat → Prop) (w w' : World) : Prop where
  size : w.heap.size ≤ w'.heap.size
  block : ∀ B, B < w.heap.size → ¬ ex B → w'.heap[B]? = w.heap[B]?
  ty : ∀ (B : Nat) (vs : Array Value) (T : TypeId) (fz : Nat × Nat), w.heap[B]? = some (.cells vs T fz) → ∃ vs' fz', w'.heap[B]? = some (.cells vs' T fz') ∧ vs'.size = vs.size

theorem Keeps.refl (ex : Nat → Prop) (w : World) : Keeps ex w w := ⟨Nat.le_refl _, fun _ _ _ => rfl, fun _ vs _ fz h => ⟨vs, fz, h, rfl⟩⟩
theorem Keeps.cell {ex : Nat → Prop} {w w' : World} (h : Keeps ex w w') {a : Addr} (ha : a.block < w.heap.size) (he : ¬ ex a.block) : w'.cell? a = w.cell? a := by
  unfold World.cell?; rw [h.block _ ha he]
theorem Keeps.mono {ex ex' : Nat → Prop} {w w' : World} (h : Keeps ex w w') (he : ∀ B, ex B → ex' B) : Keeps ex' w w' :=
  ⟨h.size, fun B hB hn => h.block B hB (fun hx => hn (he B hx)), h.ty⟩

/-- Values that hold places of the call's own: which. -/
def G.hasBox (b : Nat) : G → Bool
  | .ptr b' _ => b' == b
  | .agg gs => gs.any fun | .ptr b' _ => b' == b | .fn .. => true | _ => false
  | .tup _ | .fn .. => true
  | _ => false

theorem closed0_cell {g : G} (h : g.closed0 = true) : g.cell = true := by cases g <;> simp_all [G.closed0, G.cell]

/-- A closed cell reads the same in a world that keeps what is readable, wherever own things lie. -/
theorem Rep.keep0 {C C' : Cx} {w w' : World} {g : G} {v : Value} (h : Rep C w g v) (hg : g.closed0 = true) (hk : Keeps C.ex w w')
    (hx : ∀ B, B < w.heap.size → ¬ C.ex B → ¬ C'.ex B) : Rep C' w' g v := by
  induction h with
  | int k n => exact .int k n
  | bool b => exact .bool b
  | str s => exact .str s
  | lit v h => exact .lit v h
  | nils => exact .nils
  | emp A => exact .emp A
  | ne a cap => exact .ne a cap
  | slnil A cap h => exact .slnil A cap h
  | sl xs a cap sz f ha hlt hex hcap hsz hcl hcell h ih =>
    refine .sl xs a cap sz f ha (Nat.lt_of_lt_of_le hlt hk.size) (hx _ hlt hex) hcap hsz hcl (fun i r j g h1 h2 => ?_) (fun i r j g h1 h2 => ?_)
    · rw [hk.cell (a := ⟨a.block, a.off + i * sz + j, none⟩) hlt hex]; exact hcell i r j g h1 h2
    · exact ih i r j g h1 h2 (hcl r (List.mem_of_getElem? h1) g (List.mem_of_getElem? h2))
  | elt row off B o f hlt hex hcl hcell h ih =>
    exact .elt row off B o f (Nat.lt_of_lt_of_le hlt hk.size) (hx _ hlt hex) hcl (fun j g h1 => by rw [hk.cell (a := ⟨B, o + j, none⟩) hlt hex]; exact hcell j g h1) (fun j g h1 => ih j g h1 (hcl g (List.mem_of_getElem? h1)))
  | _ => simp [G.closed0] at hg

/-- Any value reads the same where own things lie as they did, and what is readable is kept. -/
theorem Rep.keep {C C' : Cx} {w w' : World} {g : G} {v : Value} (h : Rep C w g v) (hk : Keeps C.ex w w') (hx : ∀ B, B < w.heap.size → ¬ C.ex B → ¬ C'.ex B)
    (hb : ∀ b B, C.box b = some B → C'.box b = some B) (hr : ∀ k r, C.row k = some r → C'.row k = some r) : Rep C' w' g v := by
  induction h with
  | int k n => exact .int k n
  | bool b => exact .bool b
  | str s => exact .str s
  | lit v h => exact .lit v h
  | fn f caps vs hl h ih => exact .fn f caps vs hl ih
  | meth f caps vs hl h ih => exact .meth f caps vs hl ih
  | agg gs vs hl hc hv h ih => exact .agg gs vs hl hc hv ih
  | tup gs vs hl h ih => exact .tup gs vs hl ih
  | nils => exact .nils
  | emp A => exact .emp A
  | ne a cap => exact .ne a cap
  | slnil A cap h => exact .slnil A cap h
  | sl xs a cap sz f ha hlt hex hcap hsz hcl hcell h ih =>
    refine .sl xs a cap sz f ha (Nat.lt_of_lt_of_le hlt hk.size) (hx _ hlt hex) hcap hsz hcl (fun i r j g h1 h2 => ?_) (fun i r j g h1 h2 => ih i r j g h1 h2)
    rw [hk.cell (a := ⟨a.block, a.off + i * sz + j, none⟩) hlt hex]; exact hcell i r j g h1 h2
  | own k off len B s sz n a hr0 ho ha hn => exact .own k off len B s sz n a (hr _ _ hr0) ho ha hn
  | ownnil k A hr0 => exact .ownnil k A (hr _ _ hr0)
  | ptr b off B hb0 => exact .ptr b off B (hb _ _ hb0)
  | elt row off B o f hlt hex hcl hcell h ih =>
    exact .elt row off B o f (Nat.lt_of_lt_of_le hlt hk.size) (hx _ hlt hex) hcl (fun j g h1 => by rw [hk.cell (a := ⟨B, o + j, none⟩) hlt hex]; exact hcell j g h1) ih
  | eltw k i off B s sz n hr0 hn => exact .eltw k i off B s sz n (hr _ _ hr0) hn
  | dat k B s sz n hn hr0 => exact .dat k B s sz n hn (hr _ _ hr0)
  | datnil k p hr0 => exact .datnil k p (hr _ _ hr0)
  | dead v h => exact .dead v h
  | junk v => exact .junk v
  | und => exact .und
  | nilt => exact .nilt
  | ptrt b T n B vs fz hb0 ht hn => obtain ⟨vs', fz', h', hs⟩ := hk.ty _ _ _ _ ht; exact .ptrt b T n B vs' fz' (hb _ _ hb0) h' (hs.trans hn)
  | ownt k len T B n vs fz hr0 ho ht => obtain ⟨vs', fz', h', _⟩ := hk.ty _ _ _ _ ht; exact .ownt k len T B n vs' fz' (hr _ _ hr0) ho h'
  | owntnil k T hr0 => exact .owntnil k T (hr _ _ hr0)
  | datt k T B n vs fz hr0 ht => obtain ⟨vs', fz', h', _⟩ := hk.ty _ _ _ _ ht; exact .datt k T B n vs' fz' (hr _ _ hr0) h'
  | dattnil k T hr0 => exact .dattnil k T (hr _ _ hr0)
  | mp k kn fl B hr0 => exact .mp k kn fl B (hr _ _ hr0)
  | ownf k off len B s sz n a hr0 ho ha hn => exact .ownf k off len B s sz n a (hr _ _ hr0) ho ha hn

theorem Rep.oneCell {C : Cx} {w : World} {g : G} {v : Value} (h : Rep C w g v) (hc : g.cell = true) : v.oneCell' = true := by
  cases h <;> first | rfl | assumption | (simp [G.cell] at hc; done)

/-! Killing: the values that name an own variable, or an own row, become dead. -/
def kB0 (b : Nat) : G → G
  | .ptr b' o => if b' = b then .dead else .ptr b' o
  | .ptrt b' T n => if b' = b then .dead else .ptrt b' T n
  | .fn .. => .junk
  | .meth .. => .dead
  | g => g
def kBc (b : Nat) : G → G
  | .ptr b' o => if b' = b then .dead else .ptr b' o
  | .ptrt b' T n => if b' = b then .dead else .ptrt b' T n
  | .fn f [] => .fn f []
  | .fn .. => .dead
  | .meth .. => .dead
  | g => g
def kBa (b : Nat) : G → G
  | .agg gs => .agg (gs.map (kBc b))
  | .tup gs => .junk
  | g => kBc b g
def kB1 (b : Nat) : G → G
  | .fn f caps => .fn f (caps.map (kBa b))
  | g => kBa b g
def kR0 (k : Nat) : G → G
  | .own k' o l => if k' = k then .dead else .own k' o l
  | .eltw k' i o => if k' = k then .dead else .eltw k' i o
  | .dat k' => if k' = k then .dead else .dat k'
  | .ownt k' l T => if k' = k then .dead else .ownt k' l T
  | .datt k' T => if k' = k then .dead else .datt k' T
  | .mp k' n f => if k' = k then .dead else .mp k' n f
  | .ownf k' o l N => if k' = k then .dead else .ownf k' o l N
  | .fn f [] => .fn f []
  | .fn .. => .dead
  | .meth .. => .dead
  | g => g
def kRa (k : Nat) : G → G
  | .agg gs => .agg (gs.map (kR0 k))
  | .tup gs => .junk
  | g => kR0 k g
def kR1 (k : Nat) : G → G
  | .fn f caps => .fn f (caps.map (kRa k))
  | g => kRa k g

structure St where
  slots : List G
  boxes : List (Option (List G))
  rows : List (Option (List (List G)))

def St.put (st : St) (d : Option Tmp) (g : G) : St :=
  match d with
  | some d => { st with slots := st.slots.set d g }
  | none => st
def constG : Value → G
  | .int k n => .int k n
  | .bool b => .bool b
  | .string s => .str s
  | .slice none 0 0 => .nils
  | v => if v.oneCell' then .lit v else .junk
def St.ev (st : St) : Operand → G
  | .tmp t => st.slots.getD t .junk
  | .const v => constG v
  | .global g => .lit (.pointer (some ⟨g, 0, none⟩))
  | .func f => .fn f []
def St.killB (st : St) (b : Nat) : St :=
  { st with slots := st.slots.map (kB1 b), boxes := (st.boxes.map fun o => o.map fun cs => cs.map (kBc b)).set b none }
def St.killR (st : St) (k : Nat) : St :=
  { st with slots := st.slots.map (kR1 k), boxes := st.boxes.map fun o => o.map fun cs => cs.map (kR0 k), rows := st.rows.set k none }

/-- Cells that read as these: of an aggregate, or of one cell. -/
def CellsAs (C : Cx) (w : World) (ag : Bool) (gs : List G) (v : Value) : Prop :=
  (ag = true ∧ ∃ vs : List Value, v = .agg ⟨vs⟩ ∧ vs.length = gs.length ∧ (∀ u ∈ vs, u.oneCell' = true) ∧ ∀ (i : Nat) g u, gs[i]? = some g → vs[i]? = some u → Rep C w g u) ∨
  (ag = false ∧ ∃ g, gs = [g] ∧ v.oneCell' = true ∧ Rep C w g v)
/-- An own map: its entries as rows, the key's cells (kn of them) and the value's. (fl: whether the key, and the value, are aggregates.) -/
def MapAt (C : Cx) (w : World) (k : Nat) (xs : List (List G)) : Prop :=
  ∃ (B kn fl : Nat) (es : Array MapEntry) (clock : Nat), C.row k = some (some (B, kn, fl, 0)) ∧ C.ex B ∧ w.heap[B]? = some (.map es clock) ∧ es.toList.length = xs.length ∧
    ∀ (i : Nat) e r, es.toList[i]? = some e → xs[i]? = some r → (∀ g ∈ r, g.closed0 = true) ∧ kn ≤ r.length ∧ CellsAs C w (fl.testBit 0) (r.take kn) e.key ∧ CellsAs C w (fl.testBit 1) (r.drop kn) e.val
theorem CellsAs.mono {C C' : Cx} {w w' : World} {ag : Bool} {gs : List G} {v : Value} (h : CellsAs C w ag gs v) (hk : ∀ g ∈ gs, ∀ u, Rep C w g u → Rep C' w' g u) : CellsAs C' w' ag gs v := by
  rcases h with ⟨h0, vs, h1, h2, h3, h4⟩ | ⟨h0, g, h1, h2, h3⟩
  · exact .inl ⟨h0, vs, h1, h2, h3, fun i g u hg hu => hk g (List.mem_of_getElem? hg) u (h4 i g u hg hu)⟩
  · exact .inr ⟨h0, g, h1, h2, hk g (by rw [h1]; simp) v h3⟩
theorem MapAt.moveM {C C' : Cx} {w w' : World} {k k' : Nat} {xs : List (List G)} (h : MapAt C w k xs) (hr : ∀ q, C.row k = some q → C'.row k' = some q) (he : ∀ B q, C.row k = some (some (B, q)) → C.ex B → C'.ex B)
    (hh : ∀ B q, C.row k = some (some (B, q)) → w'.heap[B]? = w.heap[B]?) (hk : ∀ r ∈ xs, ∀ g ∈ r, ∀ u, g.closed0 = true → Rep C w g u → Rep C' w' g u) : MapAt C' w' k' xs := by
  obtain ⟨B, kn, fl, es, clock, h1, h2, h3, h4, h5⟩ := h
  refine ⟨B, kn, fl, es, clock, hr _ h1, he _ _ h1 h2, by rw [hh _ _ h1]; exact h3, h4, fun i e r hi hx => ?_⟩
  obtain ⟨k1, k2, k3, k4⟩ := h5 i e r hi hx
  have hm := List.mem_of_getElem? hx
  exact ⟨k1, k2, k3.mono fun g hg u hu => hk r hm g (List.mem_of_mem_take hg) u (k1 g (List.mem_of_mem_take hg)) hu, k4.mono fun g hg u hu => hk r hm g (List.mem_of_mem_drop hg) u (k1 g (List.mem_of_mem_drop hg)) hu⟩
theorem MapAt.move {C C' : Cx} {w w' : World} {k k' : Nat} {xs : List (List G)} (h : MapAt C w k xs) (hr : ∀ q, C.row k = some q → C'.row k' = some q) (he : ∀ B q, C.row k = some (some (B, q)) → C.ex B → C'.ex B)
    (hh : ∀ B q, C.row k = some (some (B, q)) → w'.heap[B]? = w.heap[B]?) (hk : ∀ g u, g.closed0 = true → Rep C w g u → Rep C' w' g u) : MapAt C' w' k' xs :=
  h.moveM hr he hh fun _ _ g _ u hg hu => hk g u hg hu
theorem MapAt.n0 {C : Cx} {w : World} {k : Nat} {xs : List (List G)} (h : MapAt C w k xs) {B s sz n : Nat} (hr : C.row k = some (some (B, s, sz, n))) : n = 0 := by
  obtain ⟨B', kn, fl, es, clock, h1, _⟩ := h; rw [hr] at h1; cases h1; rfl
theorem MapAt.nn {C : Cx} {w : World} {k : Nat} {xs : List (List G)} (h : MapAt C w k xs) (hr : C.row k = some none) : False := by
  obtain ⟨B', kn, fl, es, clock, h1, _⟩ := h; rw [hr] at h1; cases h1
theorem MapAt.np {C : Cx} {w : World} {k : Nat} {xs : List (List G)} (h : MapAt C w k xs) {B s sz n : Nat} (hr : C.row k = some (some (B, s, sz, n))) (hn : 0 < n) : False := by
  have := h.n0 hr; omega
theorem MapAt.nT {C : Cx} {w : World} {k : Nat} {xs : List (List G)} (h : MapAt C w k xs) {B s sz n : Nat} (hr : C.row k = some (some (B, s, sz, n))) {vs : Array Value} {T : TypeId} {fz : Nat × Nat} (ht : w.heap[B]? = some (.cells vs T fz)) : False := by
  obtain ⟨B', kn, fl, es, clock, h1, _, h3, _⟩ := h; rw [hr] at h1; cases h1; rw [ht] at h3; cases h3
theorem Rep.of_ownf {C : Cx} {w : World} {k off len N : Nat} {u : Value} (h : Rep C w (.ownf k off len N) u) : Rep C w (.own k off len) u := by
  cases h with
  | ownf _ _ _ B s sz N a hr ho ha hn => exact .own k off len B s sz N a hr ho ha hn
/-- An own row, whether its cells are all known or not. -/
def ownG : G → G
  | .ownf k off len _ => .own k off len
  | g => g
theorem Rep.ownG {C : Cx} {w : World} {g : G} {u : Value} (h : Rep C w g u) : Rep C w (ownG g) u := by
  by_cases hf : ∃ k off len N, g = .ownf k off len N
  · obtain ⟨k, off, len, N, rfl⟩ := hf; exact h.of_ownf
  · have e : Av.ownG g = g := by cases g <;> first | rfl | exact absurd ⟨_, _, _, _, rfl⟩ hf
    rw [e]; exact h
theorem Rep.own_nm {C : Cx} {w : World} {k off len : Nat} {u : Value} (h : Rep C w (.own k off len) u) {xs : List (List G)} : ¬ MapAt C w k xs := fun km => by
  cases h with
  | own _ _ _ B s sz n a hr ho ha hn => exact km.np hr hn
  | ownnil _ A hr => exact km.nn hr
/-- Functions that ask whether two slices lie in one row (a list of the seat's own). -/
def ovlK : List Nat := []
structure Mem (C : Cx) (w : World) (bs : List (Option (List G))) (rs : List (Option (List (List G)))) : Prop where
  box : ∀ (b : Nat) cs, bs[b]? = some (some cs) → ∃ B vs T, C.box b = some B ∧ C.ex B ∧ w.heap[B]? = some (.cells ⟨vs⟩ T (0, 0)) ∧ vs.length = cs.length ∧
    (∀ v ∈ vs, v.oneCell' = true) ∧ ∀ (i : Nat) g v, cs[i]? = some g → vs[i]? = some v → g.cell = true ∧ Rep C w g v
  row : ∀ (k : Nat) xs, rs[k]? = some (some xs) → (C.row k = some none ∧ xs = []) ∨ (∃ B s sz n vs T fz, C.row k = some (some (B, s, sz, n)) ∧ C.ex B ∧
    w.heap[B]? = some (.cells ⟨vs⟩ T fz) ∧ s + n * sz ≤ vs.length ∧ (0 < xs.length ∧ xs.length ≤ n) ∧ (∀ o : Nat, (o < vs.length ∨ ovlK.isEmpty = false) → ¬ (fz.1 ≤ o ∧ o < fz.2)) ∧ (∀ v ∈ vs, v.oneCell' = true) ∧
    (∀ r ∈ xs, r.length = sz ∧ ∀ g ∈ r, g.closed0 = true) ∧ ∀ (i : Nat) r (j : Nat) g v, xs[i]? = some r → r[j]? = some g → vs[s + i * sz + j]? = some v → Rep C w g v) ∨ MapAt C w k xs
  domB : ∀ b B, C.box b = some B → ∃ cs, bs[b]? = some (some cs)
  domR : ∀ k r, C.row k = some r → ∃ xs, rs[k]? = some (some xs)
  bb : ∀ b b' B, C.box b = some B → C.box b' = some B → b = b'
  rr : ∀ k k' B s sz n s' sz' n', C.row k = some (some (B, s, sz, n)) → C.row k' = some (some (B, s', sz', n')) → k = k'
  br : ∀ b k B s sz n, C.box b = some B → C.row k = some (some (B, s, sz, n)) → False
  lt : ∀ B, C.ex B → B < w.heap.size

theorem Mem.row2 {C : Cx} {w : World} {bs : List (Option (List G))} {rs : List (Option (List (List G)))} (h : Mem C w bs rs) {k : Nat} {xs : List (List G)} (hx : rs[k]? = some (some xs)) (hm : ¬ MapAt C w k xs) :
    (C.row k = some none ∧ xs = []) ∨ ∃ B s sz n vs T fz, C.row k = some (some (B, s, sz, n)) ∧ C.ex B ∧
    w.heap[B]? = some (.cells ⟨vs⟩ T fz) ∧ s + n * sz ≤ vs.length ∧ (0 < xs.length ∧ xs.length ≤ n) ∧ (∀ o : Nat, (o < vs.length ∨ ovlK.isEmpty = false) → ¬ (fz.1 ≤ o ∧ o < fz.2)) ∧ (∀ v ∈ vs, v.oneCell' = true) ∧
    (∀ r ∈ xs, r.length = sz ∧ ∀ g ∈ r, g.closed0 = true) ∧ ∀ (i : Nat) r (j : Nat) g v, xs[i]? = some r → r[j]? = some g → vs[s + i * sz + j]? = some v → Rep C w g v := by
  rcases h.row k xs hx with h1 | h1 | h1
  · exact .inl h1
  · exact .inr h1
  · exact absurd h1 hm
/-- What was there when the call began has not turned, but for the blocks that it was handed. -/
structure Fr (t0 : Nat → Prop) (w w' : World) : Prop where
  os : w'.os = w.os
  tape : w'.tape = w.tape
  output : w'.output = w.output
  size : w.heap.size ≤ w'.heap.size
  block : ∀ B, B < w.heap.size → ¬ t0 B → w'.heap[B]? = w.heap[B]?
  ty : ∀ (B : Nat) (vs : Array Value) (T : TypeId) (fz : Nat × Nat), w.heap[B]? = some (.cells vs T fz) → ∃ vs' fz', w'.heap[B]? = some (.cells vs' T fz') ∧ vs'.size = vs.size

theorem Fr.ty2 {t0 t1 : Nat → Prop} {w0 w w' : World} (h : Fr t0 w0 w) (h' : Fr t1 w w') (B : Nat) (vs : Array Value) (T : TypeId) (fz : Nat × Nat) (hB : w0.heap[B]? = some (.cells vs T fz)) : ∃ vs' fz', w'.heap[B]? = some (.cells vs' T fz') ∧ vs'.size = vs.size := by
  obtain ⟨v1, z1, g1, g2⟩ := h.ty _ _ _ _ hB
  obtain ⟨v2, z2, g3, g4⟩ := h'.ty _ _ _ _ g1
  exact ⟨v2, z2, g3, g4.trans g2⟩
/-- Blocks of the program's own tables: as they lie when the call begins, and stay. (A list of the seat's own; none where no table is read.) -/
def fixK : List (Nat × List Value) := [(1, ([1, 10, 100, 1000, 10000, 100000, 1000000, 10000000, 100000000, 1000000000, 10000000000, 100000000000, 1000000000000, 10000000000000, 100000000000000, 1000000000000000, 10000000000000000, 100000000000000000, 1000000000000000000, 10000000000000000000] : List Int).map fun z => Value.int .u64 z)]
/-- Variables of the library's that hold some number, whichever. (A list of the seat's own.) -/
def opnK : List Nat := [0]
structure Fixed (w : World) (ex : Nat → Prop) : Prop where
  tab : ∀ p ∈ fixK, p.1 < w.heap.size ∧ ¬ ex p.1 ∧ ∃ T fz, w.heap[p.1]? = some (.cells ⟨p.2⟩ T fz)
  opn : ∀ g ∈ opnK, g < w.heap.size ∧ ¬ ex g ∧ ∃ m, w.cell? ⟨g, 0, none⟩ = some (.int .i64 m)
structure Fd where
  w0 : World
  t0 : Nat → Prop
  ex0 : Nat → Prop
  fb : Nat → Option Nat
  fix : Fixed w0 ex0
  dfs : List Deferred

structure Inv (C : Cx) (F : Fd) (st : St) (a : Act) (w : World) : Prop where
  nd : a.defers = F.dfs
  sz : a.tmps.size = st.slots.length
  slots : ∀ (i : Nat) g v, st.slots[i]? = some g → a.tmps[i]? = some v → Rep C w g v
  mem : Mem C w st.boxes st.rows
  fr : Fr F.t0 F.w0 w
  ex0 : ∀ B, F.ex0 B → C.ex B
  exn : ∀ B, C.ex B → F.ex0 B ∨ F.w0.heap.size ≤ B
  t0 : ∀ B, F.t0 B → F.ex0 B
  tb : ∀ b B, C.box b = some B → F.t0 B ∨ F.w0.heap.size ≤ B
  tr : ∀ k B s sz n, C.row k = some (some (B, s, sz, n)) → F.t0 B ∨ F.w0.heap.size ≤ B
  fb : ∀ b B, F.fb b = some B → C.box b = some B ∧ st.slots.length + 8 ≤ b

theorem Fixed.sub {w : World} {ex ex' : Nat → Prop} (h : Fixed w ex) (hs : ∀ B, ex' B → ex B) : Fixed w ex' :=
  ⟨fun p hp => ⟨(h.tab p hp).1, fun hx => (h.tab p hp).2.1 (hs _ hx), (h.tab p hp).2.2⟩, fun g hg => ⟨(h.opn g hg).1, fun hx => (h.opn g hg).2.1 (hs _ hx), (h.opn g hg).2.2⟩⟩
theorem Inv.fixed {C : Cx} {F : Fd} {st : St} {a : Act} {w : World} (h : Inv C F st a w) : Fixed w C.ex := by
  have nex : ∀ B, B < F.w0.heap.size → ¬ F.ex0 B → ¬ C.ex B := fun B h1 h2 hx => by
    rcases h.exn B hx with hx | hx
    · exact h2 hx
    · omega
  refine ⟨fun p hp => ?_, fun g hg => ?_⟩
  · obtain ⟨h1, h2, T, fz, h3⟩ := F.fix.tab p hp
    exact ⟨Nat.lt_of_lt_of_le h1 h.fr.size, nex _ h1 h2, T, fz, by rw [h.fr.block p.1 h1 (fun ht => h2 (h.t0 _ ht))]; exact h3⟩
  · obtain ⟨h1, h2, m, h3⟩ := F.fix.opn g hg
    exact ⟨Nat.lt_of_lt_of_le h1 h.fr.size, nex _ h1 h2, m, by unfold World.cell? at h3 ⊢; rw [h.fr.block g h1 (fun ht => h2 (h.t0 _ ht))]; exact h3⟩
theorem Inv.ev {C : Cx} {F : Fd} {st : St} {a : Act} {w : World} (h : Inv C F st a w) (x : Operand) : Rep C w (st.ev x) (a.eval x) := by
  cases x with
  | tmp t =>
    simp only [St.ev, Act.eval]
    by_cases ht : t < st.slots.length
    · have h1 : st.slots[t]? = some (st.slots.getD t .junk) := by rw [List.getD_eq_getElem?_getD, List.getElem?_eq_getElem ht]; rfl
      have h2 : a.tmps[t]? = some (a.tmps.getD t undef) := by
        rw [Array.getD_eq_getD_getElem?, Array.getElem?_eq_getElem (by rw [h.sz]; exact ht)]; rfl
      exact h.slots t _ _ h1 h2
    · rw [List.getD_eq_getElem?_getD, List.getElem?_eq_none (Nat.le_of_not_lt ht)]; exact .junk _
  | const v =>
    simp only [Act.eval, St.ev]
    unfold constG
    split
    · exact .int ..
    · exact .bool ..
    · exact .str ..
    · exact .nils
    · split
      · exact .lit _ (by assumption)
      · exact .junk _
  | global g => exact .lit _ rfl
  | func f => exact .fn f [] [] rfl (fun i g v h => by simp at h)
end Go.Proofs.YtijohhdgecadnaaDoor.Av
namespace Go.Proofs.YtijohhdgecadnaaDoor.Av
open Go Go.RowKit
set_option linter.unusedVariables false
set_option linter.unusedSimpArgs false

def aggD : TypeDesc → Bool
  | .struct _ | .array _ _ => true
  | _ => false
def wide (P : Program) (d : TypeDesc) (t : TypeId) : Nat := bif aggD d then P.cellsOf t else 1
def rdC (P : Program) (d : TypeDesc) (t : TypeId) (off : Nat) (cs : List G) : G := bif aggD d then .agg ((cs.drop off).take (P.cellsOf t)) else cs.getD off .junk

theorem addr_add (b o n : Nat) : (Addr.add ⟨b, o, none⟩ n) = ⟨b, o + n, none⟩ := by
  unfold Addr.add; split
  · next h => subst h; rfl
  · rfl

theorem info_of_underlying {P : Program} {t : TypeId} {d : TypeDesc} (h : P.underlying t = some d) : ∃ i, P.info? t = some i := by
  unfold Program.underlying at h
  cases hi : P.info? t with
  | none => rw [hi] at h; simp at h
  | some i => exact ⟨i, rfl⟩

section runs
variable {P : Program}
theorem run_size {t : TypeId} {d : TypeDesc} (h : P.underlying t = some d) (w : World) : (sizeOf t).run P w = .ok (P.cellsOf t) w := by
  obtain ⟨i, hi⟩ := info_of_underlying h
  exact Go.run_sizeOf w hi
theorem run_isAgg' {t : TypeId} {d : TypeDesc} (h : P.underlying t = some d) (w : World) : (isAgg t).run P w = .ok (aggD d) w := by
  unfold isAgg
  rw [Sem.run_bind, run_underlying h, Result.andThen_ok]
  cases d <;> rfl

/-- A variable's load, of a place whose cells are known. -/
theorem load_sound {C : Cx} {w : World} {gs : List G} {B o : Nat} (hc : ∀ (j : Nat) g, gs[j]? = some g → ∃ v, w.cell? ⟨B, o + j, none⟩ = some v ∧ g.cell = true ∧ v.oneCell' = true ∧ Rep C w g v)
    {t : TypeId} {d : TypeDesc} (hu : P.underlying t = some d) (off : Nat) (hle : off + wide P d t ≤ gs.length) :
    ∃ v, (loadVar t ⟨B, o + off, none⟩).run P w = .ok v w ∧ Rep C w (rdC P d t off gs) v := by
  unfold loadVar
  rw [Sem.run_bind, run_isAgg' hu, Result.andThen_ok]
  unfold wide at hle
  unfold rdC
  cases ha : aggD d with
  | false =>
    rw [ha] at hle
    simp only [cond_false] at hle
    simp only [Bool.false_eq_true, if_false, cond_false]
    have h1 : gs[off]? = some (gs.getD off .junk) := by rw [List.getD_eq_getElem?_getD, List.getElem?_eq_getElem (by omega)]; rfl
    obtain ⟨v, hv, _, _, hr⟩ := hc off _ h1
    exact ⟨v, by rw [run_load, hv], hr⟩
  | true =>
    rw [ha] at hle
    simp only [cond_true] at hle
    simp only [if_true, cond_true]
    have hg : ∀ j, j < P.cellsOf t → ∃ g, gs[off + j]? = some g := fun j hj => ⟨gs[off + j]'(by omega), List.getElem?_eq_getElem (by omega)⟩
    let vs : List Value := (List.range (P.cellsOf t)).map fun j => (w.cell? ⟨B, o + off + j, none⟩).getD undef
    have hvs : ∀ (j : Nat) v, vs[j]? = some v → j < P.cellsOf t ∧ w.cell? ⟨B, o + off + j, none⟩ = some v := fun j v hv => by
      have hj : j < P.cellsOf t := by
        have := (List.getElem?_eq_some_iff.1 hv).1
        simpa [vs] using this
      refine ⟨hj, ?_⟩
      obtain ⟨g, hgj⟩ := hg j hj
      obtain ⟨u, hu, _⟩ := hc (off + j) g hgj
      rw [← Nat.add_assoc] at hu
      simp [vs, List.getElem?_map, List.getElem?_range hj, hu] at hv
      rw [hu, hv]
    have hrun : (loadCells ⟨B, o + off, none⟩ vs.length).run P w = .ok vs.toArray w :=
      run_loadCells_list w _ vs (fun j v hv => by rw [addr_add]; exact (hvs j v hv).2)
    have hlen : vs.length = P.cellsOf t := by simp [vs]
    rw [hlen] at hrun
    refine ⟨.agg ⟨vs⟩, ?_, .agg _ vs (by simp [hlen]; omega) ?_ ?_ ?_⟩
    · simp [run_size hu, hrun]
    · intro g hgm
      obtain ⟨j, hj⟩ := List.mem_iff_getElem?.1 hgm
      rw [List.getElem?_take] at hj
      split at hj
      · rw [List.getElem?_drop] at hj
        obtain ⟨_, _, h3, _⟩ := hc _ _ hj; exact h3
      · cases hj
    · intro v hvm
      obtain ⟨j, hj⟩ := List.mem_iff_getElem?.1 hvm
      obtain ⟨hlt, hcl⟩ := hvs j v hj
      obtain ⟨g, hgj⟩ := hg j hlt
      obtain ⟨u, hu, _, h3, _⟩ := hc _ _ hgj
      rw [← Nat.add_assoc, hcl] at hu; cases hu; exact h3
    · intro j g v hgj hvj
      rw [List.getElem?_take] at hgj
      split at hgj
      · rw [List.getElem?_drop] at hgj
        obtain ⟨u, hu, _, _, hr⟩ := hc _ _ hgj
        rw [← Nat.add_assoc, (hvs j v hvj).2] at hu; cases hu; exact hr
      · cases hgj

/-! stores -/
def blit {α : Type} : List α → Nat → List α → List α
  | [], _, _ => []
  | x :: xs, p + 1, us => x :: blit xs p us
  | x :: xs, 0, u :: us => u :: blit xs 0 us
  | x :: xs, 0, [] => x :: xs
theorem blit_nil {α : Type} : ∀ (xs : List α) (p : Nat), blit xs p [] = xs
  | [], _ => by cases ‹Nat› <;> rfl
  | x :: xs, p + 1 => by rw [blit, blit_nil xs p]
  | x :: xs, 0 => rfl
theorem blit_emp {α : Type} (p : Nat) (us : List α) : blit ([] : List α) p us = [] := by cases p <;> cases us <;> rfl
theorem blit_cons {α : Type} : ∀ (xs : List α) (p : Nat) (u : α) (us : List α), blit xs p (u :: us) = blit (xs.set p u) (p + 1) us
  | [], p, u, us => by rw [blit_emp, List.set_nil, blit_emp]
  | x :: xs, p + 1, u, us => by rw [List.set_cons_succ, blit, blit, blit_cons xs p u us]
  | x :: xs, 0, u, us => by rw [List.set_cons_zero, blit, blit]
theorem blit_length {α : Type} : ∀ (us xs : List α) (p : Nat), (blit xs p us).length = xs.length
  | [], xs, p => by rw [blit_nil]
  | u :: us, xs, p => by rw [blit_cons, blit_length us]; simp
theorem blit_get {α : Type} : ∀ (us xs : List α) (p j : Nat), p + us.length ≤ xs.length → (blit xs p us)[j]? = if p ≤ j ∧ j < p + us.length then us[j - p]? else xs[j]?
  | [], xs, p, j, h => by rw [blit_nil, if_neg (by simp only [List.length_nil]; omega)]
  | u :: us, xs, p, j, h => by
    simp only [List.length_cons] at h
    rw [blit_cons, blit_get us _ _ _ (by simp; omega)]
    by_cases h1 : p + 1 ≤ j ∧ j < p + 1 + us.length
    · rw [if_pos h1, if_pos (by simp; omega)]
      obtain ⟨m, rfl⟩ : ∃ m, j = p + 1 + m := ⟨j - (p + 1), by omega⟩
      rw [show p + 1 + m - p = m + 1 from by omega, show p + 1 + m - (p + 1) = m from by omega]; simp
    · rw [if_neg h1]
      by_cases h2 : j = p
      · subst h2
        rw [if_pos (by simp), List.getElem?_set_self (by omega)]; simp
      · rw [List.getElem?_set_ne (by omega), if_neg (by simp; omega)]

/-- Only this block has turned, and to these cells. -/
structure Only (w w' : World) (B : Nat) (vs : List Value) (T : TypeId) (fz : Nat × Nat) : Prop where
  os : w'.os = w.os
  tape : w'.tape = w.tape
  output : w'.output = w.output
  size : w'.heap.size = w.heap.size
  here : w'.heap[B]? = some (.cells ⟨vs⟩ T fz)
  block : ∀ k, k ≠ B → w'.heap[k]? = w.heap[k]?
  was : ∃ vs0 fz0, w.heap[B]? = some (.cells vs0 T fz0) ∧ vs0.size = vs.length

theorem setCell_only {w : World} {B : Nat} {vs : List Value} {T : TypeId} {fz : Nat × Nat} (h : w.heap[B]? = some (.cells ⟨vs⟩ T fz)) (p : Nat) (u : Value) :
    Only w (w.setCell ⟨B, p, none⟩ u) B (vs.set p u) T fz := by
  refine ⟨rfl, rfl, rfl, by simp [World.setCell], ?_, fun k hk => ?_, ⟨vs⟩, fz, h, by simp⟩
  · simp [World.setCell, Array.getElem?_modify, h]
  · simp only [World.setCell, Array.getElem?_modify]; rw [if_neg (fun e => hk e.symm)]

theorem cell_of_block {w : World} {B : Nat} {vs : List Value} {T : TypeId} {fz : Nat × Nat} (h : w.heap[B]? = some (.cells ⟨vs⟩ T fz)) (p : Nat) : w.cell? ⟨B, p, none⟩ = vs[p]? := by
  unfold World.cell?; rw [h]; simp
theorem frozen_of_block {w : World} {B : Nat} {vs : List Value} {T : TypeId} {fz : Nat × Nat} (h : w.heap[B]? = some (.cells ⟨vs⟩ T fz)) (p : Nat) (hf : ¬ (fz.1 ≤ p ∧ p < fz.2)) : w.frozen? ⟨B, p, none⟩ = false := by
  unfold World.frozen?; rw [h]
  obtain ⟨lo, hi⟩ := fz
  simp only at hf ⊢
  simp; omega

theorem run_storeCells_on (B o : Nat) (T : TypeId) (fz : Nat × Nat) : ∀ (us : List Value) (i : Nat) (vs : List Value) (w : World), w.heap[B]? = some (.cells ⟨vs⟩ T fz) → o + i + us.length ≤ vs.length →
    (∀ u ∈ us, u.oneCell' = true) → (∀ p, p < vs.length → ¬ (fz.1 ≤ p ∧ p < fz.2)) → ∃ w', (storeCells ⟨B, o, none⟩ us i).run P w = .ok () w' ∧ Only w w' B (blit vs (o + i) us) T fz
  | [], i, vs, w, h, hle, h1, hf => ⟨w, by simp [storeCells], ⟨rfl, rfl, rfl, rfl, by rw [blit_nil]; exact h, fun _ _ => rfl, ⟨vs⟩, fz, h, by simp [blit_nil]⟩⟩
  | u :: us, i, vs, w, h, hle, h1, hf => by
    simp only [List.length_cons] at hle
    have hs := setCell_only h (o + i) u
    obtain ⟨w', hr, ho⟩ := run_storeCells_on B o T fz us (i + 1) (vs.set (o + i) u) (w.setCell ⟨B, o + i, none⟩ u) hs.here (by simp; omega) (fun x hx => h1 x (by simp [hx])) (fun p hp => hf p (by simpa using hp))
    refine ⟨w', ?_, ⟨ho.os.trans hs.os, ho.tape.trans hs.tape, ho.output.trans hs.output, ho.size.trans hs.size, by rw [blit_cons, Nat.add_assoc]; exact ho.here, fun k hk => (ho.block k hk).trans (hs.block k hk), ⟨vs⟩, fz, h, by rw [blit_length]; rfl⟩⟩
    unfold storeCells
    rw [Sem.run_bind, addr_add, run_store _ _ _ _ _ (h1 u (by simp)), cell_of_block h, List.getElem?_eq_getElem (by omega), frozen_of_block h _ (hf _ (by omega))]
    simpa using hr

theorem Only.ty {w w' : World} {B : Nat} {vs : List Value} {T : TypeId} {fz : Nat × Nat} (h : Only w w' B vs T fz) (B' : Nat) (vs' : Array Value) (T' : TypeId) (fz' : Nat × Nat) (hB : w.heap[B']? = some (.cells vs' T' fz')) : ∃ vs2 fz2, w'.heap[B']? = some (.cells vs2 T' fz2) ∧ vs2.size = vs'.size := by
  by_cases e : B' = B
  · subst e
    obtain ⟨vs0, fz0, h0, hs⟩ := h.was
    rw [h0] at hB
    simp only [Option.some.injEq, Obj.cells.injEq] at hB
    obtain ⟨rfl, rfl, _⟩ := hB
    exact ⟨_, _, h.here, by rw [hs]; simp⟩
  · exact ⟨vs', fz', by rw [h.block _ e]; exact hB, rfl⟩
theorem Only.keeps {w w' : World} {B : Nat} {vs : List Value} {T : TypeId} {fz : Nat × Nat} (h : Only w w' B vs T fz) {ex : Nat → Prop} (he : ex B) : Keeps ex w w' :=
  ⟨by rw [h.size]; exact Nat.le_refl _, fun k _ hn => h.block k (fun e => hn (e ▸ he)), h.ty⟩
theorem Only.fr {t0 : Nat → Prop} {w0 w w' : World} {B : Nat} {vs : List Value} {T : TypeId} {fz : Nat × Nat} (h : Only w w' B vs T fz) (hf : Fr t0 w0 w) (hB : t0 B ∨ w0.heap.size ≤ B) : Fr t0 w0 w' :=
  ⟨h.os.trans hf.os, h.tape.trans hf.tape, h.output.trans hf.output, by rw [h.size]; exact hf.size, fun k hk hn => by
    rw [h.block k (fun e => by subst e; rcases hB with hB | hB; exact hn hB; omega)]; exact hf.block k hk hn,
    fun B' vs' T' fz' h' => by obtain ⟨vs1, fz1, h1, e1⟩ := hf.ty _ _ _ _ h'; obtain ⟨vs2, fz2, h2, e2⟩ := h.ty _ _ _ _ h1; exact ⟨vs2, fz2, h2, e2.trans e1⟩⟩
theorem run_storeVar_on {B o : Nat} {T : TypeId} {fz : Nat × Nat} {vs : List Value} {w : World} (h : w.heap[B]? = some (.cells ⟨vs⟩ T fz)) {t : TypeId} {d : TypeDesc} (hu : P.underlying t = some d) {v : Value}
    (hn : v.cells.toList.length = P.cellsOf t) (hle : o + P.cellsOf t ≤ vs.length) (h1 : ∀ u ∈ v.cells.toList, u.oneCell' = true) (hf : ∀ p, p < vs.length → ¬ (fz.1 ≤ p ∧ p < fz.2)) :
    ∃ w', (storeVar t ⟨B, o, none⟩ v).run P w = .ok () w' ∧ Only w w' B (blit vs o v.cells.toList) T fz := by
  obtain ⟨w', hr, ho⟩ := run_storeCells_on (P := P) B o T fz v.cells.toList 0 vs w h (by omega) h1 hf
  refine ⟨w', ?_, ho⟩
  unfold storeVar
  simp only [Sem.run_bind, run_size hu, Result.andThen_ok]
  rw [if_neg (by rw [← Array.length_toList]; omega)]
  simpa using hr
end runs

theorem Rep.cells {C : Cx} {w : World} {g : G} {v : Value} (h : Rep C w g v) (hc : g.cell = true ∨ ∃ gs, g = .agg gs) : v.cells.toList.length = g.cells.length ∧ (∀ u ∈ v.cells.toList, u.oneCell' = true) ∧
    ∀ (i : Nat) g' v', g.cells[i]? = some g' → v.cells.toList[i]? = some v' → g'.cell = true ∧ Rep C w g' v' := by
  rcases hc with hc | ⟨gs, rfl⟩
  · have h1 := h.oneCell hc
    have e1 : g.cells = [g] := by cases g <;> first | rfl | (simp [G.cell] at hc; done)
    have e2 : v.cells.toList = [v] := by cases v <;> first | rfl | (simp [Value.oneCell'] at h1; done)
    rw [e1, e2]
    refine ⟨rfl, fun u hu => by simp at hu; subst hu; exact h1, fun i g' v' hg hv => ?_⟩
    cases i with
    | zero => simp at hg hv; subst hg; subst hv; exact ⟨hc, h⟩
    | succ i => simp at hg
  · cases h with
    | agg _ vs hl hc hv h =>
      exact ⟨hl, hv, fun i g' v' hg hv' => ⟨hc g' (List.mem_of_getElem? hg), h i g' v' hg hv'⟩⟩
end Go.Proofs.YtijohhdgecadnaaDoor.Av
namespace Go.Proofs.YtijohhdgecadnaaDoor.Av
open Go Go.RowKit
set_option linter.unusedVariables false
set_option linter.unusedSimpArgs false

def Cx.noB (C : Cx) (b : Nat) : Cx := { C with box := fun x => if x = b then none else C.box x }
def Cx.noR (C : Cx) (k : Nat) : Cx := { C with row := fun x => if x = k then none else C.row x }
def Cx.setB (C : Cx) (b B : Nat) : Cx := { C with box := fun x => if x = b then some B else C.box x, ex := fun x => C.ex x ∨ x = B }
def Cx.setR (C : Cx) (k : Nat) (r : Option (Nat × Nat × Nat × Nat)) : Cx := { C with row := fun x => if x = k then some r else C.row x, ex := fun x => C.ex x ∨ ∃ q, r = some q ∧ x = q.1 }

theorem closed0_kBc {g : G} (h : g.closed0 = true) (b : Nat) : kBc b g = g := by cases g <;> simp_all [G.closed0, kBc]
theorem closed0_kR0 {g : G} (h : g.closed0 = true) (b : Nat) : kR0 b g = g := by cases g <;> simp_all [G.closed0, kR0]
theorem cell_kBc {g : G} (h : g.cell = true) (b : Nat) : (kBc b g).cell = true := by
  cases g with
  | fn f caps => cases caps <;> rfl
  | ptr b' o => show G.cell (if _ then _ else _) = true; split <;> rfl
  | ptrt b' o n => show G.cell (if _ then _ else _) = true; split <;> rfl
  | _ => first | rfl | (simp [G.cell] at h; done)
theorem cell_kR0 {g : G} (h : g.cell = true) (b : Nat) : (kR0 b g).cell = true := by
  cases g with
  | fn f caps => cases caps <;> rfl
  | own => show G.cell (if _ then _ else _) = true; split <;> rfl
  | eltw => show G.cell (if _ then _ else _) = true; split <;> rfl
  | dat => show G.cell (if _ then _ else _) = true; split <;> rfl
  | ownt => show G.cell (if _ then _ else _) = true; split <;> rfl
  | datt => show G.cell (if _ then _ else _) = true; split <;> rfl
  | mp => show G.cell (if _ then _ else _) = true; split <;> rfl
  | ownf => show G.cell (if _ then _ else _) = true; split <;> rfl
  | _ => first | rfl | (simp [G.cell] at h; done)
theorem Rep.fn0 {C C' : Cx} {w : World} {f : FuncId} {v : Value} (h : Rep C w (.fn f []) v) : Rep C' w (.fn f []) v := by
  cases h with
  | fn _ _ vs hl h => exact .fn f [] vs hl (fun i g v hg => by simp at hg)

theorem Rep.kBc {C : Cx} {w : World} {g : G} {v : Value} (h : Rep C w g v) (hc : g.cell = true) (b : Nat) : Rep (C.noB b) w (kBc b g) v := by
  have h1 := h.oneCell hc
  by_cases h0 : g.closed0 = true
  · rw [closed0_kBc h0]; exact h.keep0 h0 (Keeps.refl _ _) (fun _ _ h => h)
  · cases h with
    | fn f caps vs hl hr =>
      cases caps with
      | nil => exact Rep.fn0 (C := C) (.fn f [] vs hl hr)
      | cons _ _ => exact .dead _ rfl
    | meth f gs vs hl hr => exact .dead _ rfl
    | nilt => exact .nilt
    | ptrt b' T n B vs fz hb ht hn =>
      by_cases e : b' = b
      · show Rep _ _ (if b' = b then _ else _) _; rw [if_pos e]; exact .dead _ rfl
      · show Rep _ _ (if b' = b then _ else _) _; rw [if_neg e]; exact .ptrt b' T n B vs fz (by show (if b' = b then _ else _) = _; rw [if_neg e]; exact hb) ht hn
    | ownt k len T B n vs fz hr ho ht => exact .ownt k len T B n vs fz hr ho ht
    | owntnil k T hr => exact .owntnil k T hr
    | datt k T B n vs fz hr ht => exact .datt k T B n vs fz hr ht
    | dattnil k T hr => exact .dattnil k T hr
    | own k off len B s sz n a hr ho ha hn => exact .own k off len B s sz n a hr ho ha hn
    | mp k kn fl B hr => exact .mp k kn fl B hr
    | ownf k off len B s sz n a hr ho ha hn => exact .ownf k off len B s sz n a hr ho ha hn
    | ownnil k A hr => exact .ownnil k A hr
    | ptr b' off B hb =>
      by_cases e : b' = b
      · show Rep _ _ (if b' = b then _ else _) _; rw [if_pos e]; exact .dead _ rfl
      · show Rep _ _ (if b' = b then _ else _) _; rw [if_neg e]; exact .ptr b' off B (by show (if b' = b then _ else _) = _; rw [if_neg e]; exact hb)
    | elt row off B o f hlt hex hcl hcell h =>
      exact .elt row off B o f hlt hex hcl hcell (fun j g hg => (h j g hg).keep0 (hcl g (List.mem_of_getElem? hg)) (Keeps.refl _ _) (fun _ _ h => h))
    | eltw k i off B s sz n hr hn => exact .eltw k i off B s sz n hr hn
    | dat k B s sz n hn hr => exact .dat k B s sz n hn hr
    | datnil k p hr => exact .datnil k p hr
    | dead v h => exact .dead _ h
    | _ => simp_all [G.closed0, G.cell]
theorem Rep.kBa {C : Cx} {w : World} {g : G} {v : Value} (h : Rep C w g v) (b : Nat) : Rep (C.noB b) w (kBa b g) v := by
  by_cases hcc : g.cell = true
  · have e : Av.kBa b g = Av.kBc b g := by cases g <;> first | rfl | (simp [G.cell] at hcc; done)
    rw [e]; exact h.kBc hcc b
  · cases h with
    | agg gs vs hl hc hv h =>
      refine .agg _ vs (by simp [hl]) (fun g hg => ?_) hv (fun i g v hg hv' => ?_)
      · obtain ⟨x, hx, rfl⟩ := List.mem_map.1 hg; exact cell_kBc (hc x hx) b
      · rw [List.getElem?_map] at hg
        obtain ⟨x, hx, rfl⟩ := Option.map_eq_some_iff.1 hg
        exact (h i x v hx hv').kBc (hc x (List.mem_of_getElem? hx)) b
    | tup => exact .junk _
    | junk => exact .junk _
    | und => exact .und
    | _ => simp_all [G.cell]
theorem Rep.kB1 {C : Cx} {w : World} {g : G} {v : Value} (h : Rep C w g v) (b : Nat) : Rep (C.noB b) w (kB1 b g) v := by
  by_cases hf : ∃ f caps, g = .fn f caps
  · obtain ⟨f, caps, rfl⟩ := hf
    cases h with
    | fn _ _ vs hl h =>
      refine .fn f _ vs (by simp [hl]) (fun i g v hg hv => ?_)
      rw [List.getElem?_map] at hg
      obtain ⟨x, hx, rfl⟩ := Option.map_eq_some_iff.1 hg
      exact (h i x v hx hv).kBa b
  · have e : Av.kB1 b g = Av.kBa b g := by cases g <;> first | rfl | exact absurd ⟨_, _, rfl⟩ hf
    rw [e]; exact h.kBa b
theorem Rep.kR0 {C : Cx} {w : World} {g : G} {v : Value} (h : Rep C w g v) (hc : g.cell = true) (k : Nat) : Rep (C.noR k) w (kR0 k g) v := by
  have h1 := h.oneCell hc
  have hrow : ∀ k' r, k' ≠ k → C.row k' = some r → (C.noR k).row k' = some r := fun k' r e hr => by show (if k' = k then _ else _) = _; rw [if_neg e]; exact hr
  by_cases h0 : g.closed0 = true
  · rw [closed0_kR0 h0]; exact h.keep0 h0 (Keeps.refl _ _) (fun _ _ h => h)
  · cases h with
    | fn f caps vs hl hr =>
      cases caps with
      | nil => exact Rep.fn0 (C := C) (.fn f [] vs hl hr)
      | cons _ _ => exact .dead _ rfl
    | meth f gs vs hl hr => exact .dead _ rfl
    | nilt => exact .nilt
    | ptrt b' T n B vs fz hb ht hn => exact .ptrt b' T n B vs fz hb ht hn
    | ownt k' len T B n vs fz hr ho ht =>
      show Rep _ _ (if k' = k then _ else _) _
      by_cases e : k' = k
      · rw [if_pos e]; exact .dead _ rfl
      · rw [if_neg e]; exact .ownt k' len T B n vs fz (hrow _ _ e hr) ho ht
    | owntnil k' T hr =>
      show Rep _ _ (if k' = k then _ else _) _
      by_cases e : k' = k
      · rw [if_pos e]; exact .dead _ rfl
      · rw [if_neg e]; exact .owntnil k' T (hrow _ _ e hr)
    | datt k' T B n vs fz hr ht =>
      show Rep _ _ (if k' = k then _ else _) _
      by_cases e : k' = k
      · rw [if_pos e]; exact .dead _ rfl
      · rw [if_neg e]; exact .datt k' T B n vs fz (hrow _ _ e hr) ht
    | dattnil k' T hr =>
      show Rep _ _ (if k' = k then _ else _) _
      by_cases e : k' = k
      · rw [if_pos e]; exact .dead _ rfl
      · rw [if_neg e]; exact .dattnil k' T (hrow _ _ e hr)
    | own k' off len B s sz n a hr ho ha hn =>
      show Rep _ _ (if k' = k then _ else _) _
      by_cases e : k' = k
      · rw [if_pos e]; exact .dead _ rfl
      · rw [if_neg e]; exact .own k' off len B s sz n a (hrow _ _ e hr) ho ha hn
    | mp k' kn fl B hr =>
      show Rep _ _ (if k' = k then _ else _) _
      by_cases e : k' = k
      · rw [if_pos e]; exact .dead _ rfl
      · rw [if_neg e]; exact .mp k' kn fl B (hrow _ _ e hr)
    | ownf k' off len B s sz n a hr ho ha hn =>
      show Rep _ _ (if k' = k then _ else _) _
      by_cases e : k' = k
      · rw [if_pos e]; exact .dead _ rfl
      · rw [if_neg e]; exact .ownf k' off len B s sz n a (hrow _ _ e hr) ho ha hn
    | ownnil k' A hr =>
      show Rep _ _ (if k' = k then _ else _) _
      by_cases e : k' = k
      · rw [if_pos e]; exact .dead _ rfl
      · rw [if_neg e]; exact .ownnil k' A (hrow _ _ e hr)
    | ptr b' off B hb => exact .ptr b' off B hb
    | elt row off B o f hlt hex hcl hcell h =>
      exact .elt row off B o f hlt hex hcl hcell (fun j g hg => (h j g hg).keep0 (hcl g (List.mem_of_getElem? hg)) (Keeps.refl _ _) (fun _ _ h => h))
    | eltw k' i off B s sz n hr hn0 =>
      show Rep _ _ (if k' = k then _ else _) _
      by_cases e : k' = k
      · rw [if_pos e]; exact .dead _ rfl
      · rw [if_neg e]; exact .eltw k' i off B s sz n (hrow _ _ e hr) hn0
    | dat k' B s sz n hn hr =>
      show Rep _ _ (if k' = k then _ else _) _
      by_cases e : k' = k
      · rw [if_pos e]; exact .dead _ rfl
      · rw [if_neg e]; exact .dat k' B s sz n hn (hrow _ _ e hr)
    | datnil k' p hr =>
      show Rep _ _ (if k' = k then _ else _) _
      by_cases e : k' = k
      · rw [if_pos e]; exact .dead _ rfl
      · rw [if_neg e]; exact .datnil k' p (hrow _ _ e hr)
    | dead v h => exact .dead _ h
    | _ => simp_all [G.closed0, G.cell]
theorem Rep.kRa {C : Cx} {w : World} {g : G} {v : Value} (h : Rep C w g v) (k : Nat) : Rep (C.noR k) w (kRa k g) v := by
  by_cases hcc : g.cell = true
  · have e : Av.kRa k g = Av.kR0 k g := by cases g <;> first | rfl | (simp [G.cell] at hcc; done)
    rw [e]; exact h.kR0 hcc k
  · cases h with
    | agg gs vs hl hc hv h =>
      refine .agg _ vs (by simp [hl]) (fun g hg => ?_) hv (fun i g v hg hv' => ?_)
      · obtain ⟨x, hx, rfl⟩ := List.mem_map.1 hg; exact cell_kR0 (hc x hx) k
      · rw [List.getElem?_map] at hg
        obtain ⟨x, hx, rfl⟩ := Option.map_eq_some_iff.1 hg
        exact (h i x v hx hv').kR0 (hc x (List.mem_of_getElem? hx)) k
    | tup => exact .junk _
    | junk => exact .junk _
    | und => exact .und
    | _ => simp_all [G.cell]
theorem Rep.kR1 {C : Cx} {w : World} {g : G} {v : Value} (h : Rep C w g v) (k : Nat) : Rep (C.noR k) w (kR1 k g) v := by
  by_cases hf : ∃ f caps, g = .fn f caps
  · obtain ⟨f, caps, rfl⟩ := hf
    cases h with
    | fn _ _ vs hl h =>
      refine .fn f _ vs (by simp [hl]) (fun i g v hg hv => ?_)
      rw [List.getElem?_map] at hg
      obtain ⟨x, hx, rfl⟩ := Option.map_eq_some_iff.1 hg
      exact (h i x v hx hv).kRa k
  · have e : Av.kR1 k g = Av.kRa k g := by cases g <;> first | rfl | exact absurd ⟨_, _, rfl⟩ hf
    rw [e]; exact h.kRa k

def St.len (st : St) : Nat := st.slots.length

theorem Mem.killB {C : Cx} {w : World} {bs : List (Option (List G))} {rs : List (Option (List (List G)))} (h : Mem C w bs rs) (b : Nat) :
    Mem (C.noB b) w ((bs.map fun o => o.map fun cs => cs.map (kBc b)).set b none) rs := by
  have hne : ∀ x B, (C.noB b).box x = some B → x ≠ b ∧ C.box x = some B := fun x B hx => by
    have hx' : (if x = b then none else C.box x) = some B := hx
    split at hx'
    · cases hx'
    · exact ⟨by assumption, hx'⟩
  refine ⟨fun x cs hx => ?_, fun k xs hk => ?_, fun x B hx => ?_, fun k r hr => h.domR k r hr, fun x x' B h1 h2 => h.bb x x' B (hne _ _ h1).2 (hne _ _ h2).2, fun k k' B s sz n s' sz' n' h1 h2 => h.rr k k' B s sz n s' sz' n' h1 h2,
    fun x k B s sz n h1 h2 => h.br x k B s sz n (hne _ _ h1).2 h2, h.lt⟩
  · have hxb : x ≠ b := fun e => by subst e; rw [List.getElem?_set] at hx; simp at hx
    rw [List.getElem?_set_ne (fun e => hxb e.symm), List.getElem?_map] at hx
    obtain ⟨o, ho, ho2⟩ := Option.map_eq_some_iff.1 hx
    obtain ⟨cs0, rfl, rfl⟩ := Option.map_eq_some_iff.1 ho2
    obtain ⟨B, vs, T, h1, h2, h3, h4, h5, h6⟩ := h.box x cs0 ho
    refine ⟨B, vs, T, by show (if x = b then none else C.box x) = _; rw [if_neg hxb]; exact h1, h2, h3, by simp [h4], h5, fun i g v hg hv => ?_⟩
    rw [List.getElem?_map] at hg
    obtain ⟨g0, hg0, rfl⟩ := Option.map_eq_some_iff.1 hg
    obtain ⟨hc, hr⟩ := h6 i g0 v hg0 hv
    exact ⟨cell_kBc hc b, hr.kBc hc b⟩
  · rcases h.row k xs hk with h1 | ⟨B, s, sz, n, vs, T, fz, h1, h2, h3, h4, h5, h6, h6b, h7, h8⟩ | km
    · exact .inl h1
    · exact .inr (.inl ⟨B, s, sz, n, vs, T, fz, h1, h2, h3, h4, h5, h6, h6b, h7, fun i r j g v hi hj hv => (h8 i r j g v hi hj hv).keep0 ((h7 r (List.mem_of_getElem? hi)).2 g (List.mem_of_getElem? hj)) (Keeps.refl _ _) (fun _ _ h => h)⟩)
    · exact .inr (.inr (km.move (fun q h => h) (fun _ _ _ h => h) (fun _ _ _ => rfl) (fun g u hg hu => hu.keep0 hg (Keeps.refl _ _) (fun _ _ h => h))))
  · obtain ⟨hxb, hB⟩ := hne x B hx
    obtain ⟨cs, hcs⟩ := h.domB x B hB
    exact ⟨cs.map (kBc b), by rw [List.getElem?_set_ne (fun e => hxb e.symm), List.getElem?_map, hcs]; rfl⟩

theorem Mem.killR {C : Cx} {w : World} {bs : List (Option (List G))} {rs : List (Option (List (List G)))} (h : Mem C w bs rs) (k : Nat) :
    Mem (C.noR k) w (bs.map fun o => o.map fun cs => cs.map (kR0 k)) (rs.set k none) := by
  have hne : ∀ x r, (C.noR k).row x = some r → x ≠ k ∧ C.row x = some r := fun x r hx => by
    have hx' : (if x = k then none else C.row x) = some r := hx
    split at hx'
    · cases hx'
    · exact ⟨by assumption, hx'⟩
  refine ⟨fun x cs hx => ?_, fun x xs hx => ?_, fun x B hx => ?_, fun x r hr => ?_, fun x x' B h1 h2 => h.bb x x' B h1 h2, fun k k' B s sz n s' sz' n' h1 h2 => h.rr k k' B s sz n s' sz' n' (hne _ _ h1).2 (hne _ _ h2).2,
    fun x k B s sz n h1 h2 => h.br x k B s sz n h1 (hne _ _ h2).2, h.lt⟩
  · rw [List.getElem?_map] at hx
    obtain ⟨o, ho, ho2⟩ := Option.map_eq_some_iff.1 hx
    obtain ⟨cs0, rfl, rfl⟩ := Option.map_eq_some_iff.1 ho2
    obtain ⟨B, vs, T, h1, h2, h3, h4, h5, h6⟩ := h.box x cs0 ho
    refine ⟨B, vs, T, h1, h2, h3, by simp [h4], h5, fun i g v hg hv => ?_⟩
    rw [List.getElem?_map] at hg
    obtain ⟨g0, hg0, rfl⟩ := Option.map_eq_some_iff.1 hg
    obtain ⟨hc, hr⟩ := h6 i g0 v hg0 hv
    exact ⟨cell_kR0 hc k, hr.kR0 hc k⟩
  · have hxb : x ≠ k := fun e => by subst e; rw [List.getElem?_set] at hx; simp at hx
    rw [List.getElem?_set_ne (fun e => hxb e.symm)] at hx
    have hrow : (C.noR k).row x = C.row x := by show (if x = k then none else C.row x) = _; rw [if_neg hxb]
    rcases h.row x xs hx with h1 | ⟨B, s, sz, n, vs, T, fz, h1, h2, h3, h4, h5, h6, h6b, h7, h8⟩ | km
    · exact .inl ⟨hrow.trans h1.1, h1.2⟩
    · exact .inr (.inl ⟨B, s, sz, n, vs, T, fz, hrow.trans h1, h2, h3, h4, h5, h6, h6b, h7, fun i r j g v hi hj hv => (h8 i r j g v hi hj hv).keep0 ((h7 r (List.mem_of_getElem? hi)).2 g (List.mem_of_getElem? hj)) (Keeps.refl _ _) (fun _ _ h => h)⟩)
    · exact .inr (.inr (km.move (fun q h => hrow.trans h) (fun _ _ _ h => h) (fun _ _ _ => rfl) (fun g u hg hu => hu.keep0 hg (Keeps.refl _ _) (fun _ _ h => h))))
  · obtain ⟨cs, hcs⟩ := h.domB x B hx
    exact ⟨cs.map (kR0 k), by rw [List.getElem?_map, hcs]; rfl⟩
  · obtain ⟨hxb, hB⟩ := hne x r hr
    obtain ⟨xs, hxs⟩ := h.domR x r hB
    exact ⟨xs, by rw [List.getElem?_set_ne (fun e => hxb e.symm)]; exact hxs⟩

theorem Inv.killB {C : Cx} {F : Fd} {st : St} {a : Act} {w : World} (h : Inv C F st a w) (b : Nat) (hlt : b < st.slots.length + 8) : Inv (C.noB b) F (st.killB b) a w := by
  refine ⟨h.nd, by simp [St.killB, h.sz], fun i g v hg hv => ?_, h.mem.killB b, h.fr, h.ex0, h.exn, h.t0, fun x B hx => ?_, h.tr, fun x B hx => ?_⟩
  · simp only [St.killB, List.getElem?_map] at hg
    obtain ⟨g0, hg0, rfl⟩ := Option.map_eq_some_iff.1 hg
    exact (h.slots i g0 v hg0 hv).kB1 b
  · have hx' : (if x = b then none else C.box x) = some B := hx
    split at hx'
    · cases hx'
    · exact h.tb x B hx'
  · obtain ⟨h1, h2⟩ := h.fb x B hx
    refine ⟨?_, by simpa [St.killB] using h2⟩
    show (if x = b then none else C.box x) = _
    rw [if_neg (by omega)]; exact h1
theorem Inv.killR {C : Cx} {F : Fd} {st : St} {a : Act} {w : World} (h : Inv C F st a w) (k : Nat) : Inv (C.noR k) F (st.killR k) a w := by
  refine ⟨h.nd, by simp [St.killR, h.sz], fun i g v hg hv => ?_, h.mem.killR k, h.fr, h.ex0, h.exn, h.t0, h.tb, fun x B s sz n hx => ?_, fun x B hx => ⟨(h.fb x B hx).1, by simpa [St.killR] using (h.fb x B hx).2⟩⟩
  · simp only [St.killR, List.getElem?_map] at hg
    obtain ⟨g0, hg0, rfl⟩ := Option.map_eq_some_iff.1 hg
    exact (h.slots i g0 v hg0 hv).kR1 k
  · have hx' : (if x = k then none else C.row x) = some (some (B, s, sz, n)) := hx
    split at hx'
    · cases hx'
    · exact h.tr x B s sz n hx'

/-! A new own variable. -/
def St.setBox (st : St) (b : Nat) (cs : List G) : St := { st with boxes := st.boxes.set b (some cs) }
def St.setRow (st : St) (k : Nat) (xs : List (List G)) : St := { st with rows := st.rows.set k (some xs) }
def St.newBox (st : St) (b : Nat) (cs : List G) : St :=
  match st.boxes.getD b none with
  | none => st.setBox b cs
  | some _ => (st.killB b).setBox b (cs.map (kBc b))

theorem ty_alloc (w : World) (o : Obj) (B : Nat) (vs : Array Value) (T : TypeId) (fz : Nat × Nat) (h : w.heap[B]? = some (.cells vs T fz)) : ∃ vs' fz', (w.alloc o).heap[B]? = some (.cells vs' T fz') ∧ vs'.size = vs.size :=
  ⟨vs, fz, by rw [Below.heap_alloc w o B (Array.getElem?_eq_some_iff.1 h).1]; exact h, rfl⟩
theorem keeps_alloc (ex : Nat → Prop) (w : World) (o : Obj) : Keeps ex w (w.alloc o) := ⟨by simp, fun B hB _ => Below.heap_alloc w o B hB, ty_alloc w o⟩
theorem Fr.alloc {t0 : Nat → Prop} {w0 w : World} (h : Fr t0 w0 w) (o : Obj) : Fr t0 w0 (w.alloc o) :=
  ⟨h.os, h.tape, h.output, by rw [World.size_alloc]; have := h.size; omega, fun B hB hn => by rw [Below.heap_alloc w o B (by have := h.size; omega)]; exact h.block B hB hn,
    fun B vs T fz hB => by obtain ⟨vs1, fz1, h1, e1⟩ := h.ty _ _ _ _ hB; obtain ⟨vs2, fz2, h2, e2⟩ := ty_alloc w o _ _ _ _ h1; exact ⟨vs2, fz2, h2, e2.trans e1⟩⟩

theorem Inv.addBox {C : Cx} {F : Fd} {st : St} {a : Act} {w : World} (h : Inv C F st a w) {b : Nat} (hb : C.box b = none) (hlt : b < st.boxes.length) {cs : List G} {vs : List Value} (T : TypeId)
    (hl : vs.length = cs.length) (h1 : ∀ v ∈ vs, v.oneCell' = true) (hr : ∀ (i : Nat) g v, cs[i]? = some g → vs[i]? = some v → g.cell = true ∧ Rep C w g v) :
    Inv (C.setB b w.heap.size) F (st.setBox b cs) a (w.alloc (.cells ⟨vs⟩ T)) ∧ (C.setB b w.heap.size).box b = some w.heap.size := by
  have hk := keeps_alloc C.ex w (.cells ⟨vs⟩ T)
  have hbox : ∀ x B, (C.setB b w.heap.size).box x = some B → (x = b ∧ B = w.heap.size) ∨ (x ≠ b ∧ C.box x = some B) := fun x B hx => by
    have hx' : (if x = b then some w.heap.size else C.box x) = some B := hx
    split at hx'
    · cases hx'; exact .inl ⟨by assumption, rfl⟩
    · exact .inr ⟨by assumption, hx'⟩
  have hx : ∀ B, B < w.heap.size → ¬ C.ex B → ¬ (C.setB b w.heap.size).ex B := fun B hB hn hx => by
    rcases hx with hx | hx
    · exact hn hx
    · omega
  have keep : ∀ g v, Rep C w g v → Rep (C.setB b w.heap.size) (w.alloc (.cells ⟨vs⟩ T)) g v := fun g v hg =>
    hg.keep hk hx (fun x B hxB => by
      show (if x = b then some w.heap.size else C.box x) = _
      rw [if_neg (fun e => by subst e; rw [hb] at hxB; cases hxB)]; exact hxB) (fun k r hr => hr)
  have hself : (C.setB b w.heap.size).box b = some w.heap.size := by show (if b = b then _ else _) = _; rw [if_pos rfl]
  have hltB : ∀ x B, C.box x = some B → B < w.heap.size := fun x B hxB => by
    obtain ⟨cs', hcs'⟩ := h.mem.domB x B hxB
    obtain ⟨B', _, _, h1, h2, _⟩ := h.mem.box x cs' hcs'
    rw [hxB] at h1; cases h1; exact h.mem.lt _ h2
  have hltR : ∀ k B s sz n, C.row k = some (some (B, s, sz, n)) → B < w.heap.size := fun k B s sz n hkB => by
    obtain ⟨xs, hxs⟩ := h.mem.domR k _ hkB
    rcases h.mem.row k xs hxs with h1 | ⟨B', _, _, _, _, _, _, h1, h2, _⟩ | ⟨B', _, _, _, _, h1, h2, _⟩
    · rw [hkB] at h1; cases h1.1
    · rw [hkB] at h1; cases h1; exact h.mem.lt _ h2
    · rw [hkB] at h1; cases h1; exact h.mem.lt _ h2
  refine ⟨⟨h.nd, h.sz, fun i g v hg hv => keep _ _ (h.slots i g v hg hv), ⟨fun x cs' hcs => ?_, fun k xs hkx => ?_, fun x B hxB => ?_, fun k r hkr => h.mem.domR k r hkr, fun x x' B h1 h2 => ?_, fun k k' B s sz n s' sz' n' h1 h2 => h.mem.rr k k' B s sz n s' sz' n' h1 h2, fun x k B s sz n h1 h2 => ?_, fun B hB => ?_⟩, h.fr.alloc _, fun B hB => .inl (h.ex0 B hB), fun B hB => ?_, h.t0, fun x B hxB => ?_, h.tr, fun x B hfx => ⟨?_, (h.fb x B hfx).2⟩⟩, hself⟩
  · by_cases e : x = b
    · subst e
      simp only [St.setBox, List.getElem?_set_self hlt, Option.some.injEq] at hcs
      subst hcs
      exact ⟨w.heap.size, vs, T, hself, .inr rfl, heap_alloc_new w _, hl, h1, fun i g v hg hv => ⟨(hr i g v hg hv).1, keep _ _ (hr i g v hg hv).2⟩⟩
    · simp only [St.setBox, List.getElem?_set_ne (fun e' => e e'.symm)] at hcs
      obtain ⟨B, us, T', k1, k2, k3, k4, k5, k6⟩ := h.mem.box x cs' hcs
      exact ⟨B, us, T', by show (if x = b then _ else _) = _; rw [if_neg e]; exact k1, .inl k2, by rw [Below.heap_alloc w _ B (h.mem.lt _ k2)]; exact k3, k4, k5, fun i g v hg hv => ⟨(k6 i g v hg hv).1, keep _ _ (k6 i g v hg hv).2⟩⟩
  · rcases h.mem.row k xs hkx with k1 | ⟨B, s, sz, n, us, T', fz, k1, k2, k3, k4, k5, k6, k6b, k7, k8⟩ | km
    · exact .inl k1
    · exact .inr (.inl ⟨B, s, sz, n, us, T', fz, k1, .inl k2, by rw [Below.heap_alloc w _ B (h.mem.lt _ k2)]; exact k3, k4, k5, k6, k6b, k7, fun i r j g v a1 a2 a3 => keep _ _ (k8 i r j g v a1 a2 a3)⟩)
    · exact .inr (.inr (km.move (fun q h => h) (fun _ _ _ h => .inl h) (fun B q hq => by rw [Below.heap_alloc w _ B (hltR _ _ _ _ _ hq)]) (fun g u hg hu => keep _ _ hu)))
  · rcases hbox x B hxB with ⟨rfl, rfl⟩ | ⟨e, hB⟩
    · exact ⟨cs, by simp [St.setBox, List.getElem?_set_self hlt]⟩
    · obtain ⟨cs', hcs'⟩ := h.mem.domB x B hB
      exact ⟨cs', by simp only [St.setBox, List.getElem?_set_ne (fun e' => e e'.symm)]; exact hcs'⟩
  · rcases hbox x B h1 with ⟨rfl, rfl⟩ | ⟨e, hB⟩ <;> rcases hbox x' _ h2 with ⟨rfl, e2⟩ | ⟨e', hB'⟩
    · rfl
    · exact absurd (hltB _ _ hB') (by omega)
    · exact absurd (hltB _ _ hB) (by omega)
    · exact h.mem.bb x x' B hB hB'
  · rcases hbox x B h1 with ⟨rfl, rfl⟩ | ⟨e, hB⟩
    · exact absurd (hltR _ _ _ _ _ h2) (by omega)
    · exact h.mem.br x k B s sz n hB h2
  · rw [World.size_alloc]
    rcases hB with hB | hB
    · have := h.mem.lt B hB; omega
    · omega
  · rcases hB with hB | hB
    · exact h.exn B hB
    · exact .inr (by have := h.fr.size; omega)
  · rcases hbox x B hxB with ⟨rfl, rfl⟩ | ⟨e, hB⟩
    · exact .inr h.fr.size
    · exact h.tb x B hB
  · show (if x = b then some w.heap.size else C.box x) = _
    rw [if_neg (fun e => by subst e; exact absurd (h.fb x B hfx).1 (by rw [hb]; simp))]; exact (h.fb x B hfx).1

theorem Inv.newBox {C : Cx} {F : Fd} {st : St} {a : Act} {w : World} (h : Inv C F st a w) (b : Nat) (hlt : b < st.boxes.length) (hls : b < st.slots.length + 8) {cs : List G} {vs : List Value} (T : TypeId)
    (hl : vs.length = cs.length) (h1 : ∀ v ∈ vs, v.oneCell' = true) (hr : ∀ (i : Nat) g v, cs[i]? = some g → vs[i]? = some v → g.cell = true ∧ Rep C w g v) :
    ∃ C', Inv C' F (st.newBox b cs) a (w.alloc (.cells ⟨vs⟩ T)) ∧ C'.box b = some w.heap.size := by
  unfold St.newBox
  cases hb : st.boxes.getD b none with
  | none =>
    have hn : C.box b = none := by
      cases hx : C.box b with
      | none => rfl
      | some B =>
        obtain ⟨cs', hcs'⟩ := h.mem.domB b B hx
        rw [List.getD_eq_getElem?_getD, hcs'] at hb; cases hb
    exact ⟨_, h.addBox hn hlt T hl h1 hr⟩
  | some _ =>
    have h' := h.killB b hls
    exact ⟨_, h'.addBox (by show (if b = b then none else _) = _; rw [if_pos rfl]) (by simpa [St.killB] using hlt) T (by simpa using hl) h1 (fun i g v hg hv => by
      rw [List.getElem?_map] at hg
      obtain ⟨g0, hg0, rfl⟩ := Option.map_eq_some_iff.1 hg
      obtain ⟨k1, k2⟩ := hr i g0 v hg0 hv
      exact ⟨cell_kBc k1 b, k2.kBc k1 b⟩)⟩
end Go.Proofs.YtijohhdgecadnaaDoor.Av
namespace Go.Proofs.YtijohhdgecadnaaDoor.Av
open Go Go.RowKit
set_option linter.unusedVariables false
set_option linter.unusedSimpArgs false

theorem Mem.ltB {C : Cx} {w : World} {bs : List (Option (List G))} {rs : List (Option (List (List G)))} (h : Mem C w bs rs) {b B : Nat} (hb : C.box b = some B) : C.ex B := by
  obtain ⟨cs, hcs⟩ := h.domB b B hb
  obtain ⟨B', _, _, h1, h2, _⟩ := h.box b cs hcs
  rw [hb] at h1; cases h1; exact h2
theorem Mem.ltR {C : Cx} {w : World} {bs : List (Option (List G))} {rs : List (Option (List (List G)))} (h : Mem C w bs rs) {k B s sz n : Nat} (hk : C.row k = some (some (B, s, sz, n))) : C.ex B := by
  obtain ⟨xs, hxs⟩ := h.domR k _ hk
  rcases h.row k xs hxs with h1 | ⟨B', _, _, _, _, _, _, h1, h2, _⟩ | ⟨B', _, _, _, _, h1, h2, _⟩
  · rw [hk] at h1; cases h1.1
  · rw [hk] at h1; cases h1; exact h2
  · rw [hk] at h1; cases h1; exact h2

/-- The state stays, whatever block that it does not name has turned. -/
theorem Inv.step {C : Cx} {F : Fd} {st : St} {a : Act} {w w' : World} (h : Inv C F st a w) (hf : Fr F.t0 F.w0 w') (hk : Keeps C.ex w w')
    (hB : ∀ b B, C.box b = some B → w'.heap[B]? = w.heap[B]?) (hR : ∀ k B s sz n, C.row k = some (some (B, s, sz, n)) → w'.heap[B]? = w.heap[B]?)
    (ex' : Nat → Prop) (h1 : ∀ B, C.ex B → ex' B) (h2 : ∀ B, ex' B → C.ex B ∨ w.heap.size ≤ B) (h3 : ∀ B, ex' B → B < w'.heap.size) : Inv { C with ex := ex' } F st a w' := by
  have keep : ∀ g v, Rep C w g v → Rep { C with ex := ex' } w' g v := fun g v hg => hg.keep hk (fun B hB hn hx => by rcases h2 B hx with hx | hx; exact hn hx; omega) (fun _ _ h => h) (fun _ _ h => h)
  refine ⟨h.nd, h.sz, fun i g v hg hv => keep g v (h.slots i g v hg hv), ⟨fun b cs hb => ?_, fun k xs hx => ?_, h.mem.domB, h.mem.domR, h.mem.bb, h.mem.rr, h.mem.br, h3⟩, hf, fun B hB => h1 B (h.ex0 B hB), fun B hB => ?_, h.t0, h.tb, h.tr, h.fb⟩
  · obtain ⟨B, vs, T, k1, k2, k3, k4, k5, k6⟩ := h.mem.box b cs hb
    exact ⟨B, vs, T, k1, h1 _ k2, by rw [hB b B k1]; exact k3, k4, k5, fun i g v hg hv => ⟨(k6 i g v hg hv).1, keep _ _ (k6 i g v hg hv).2⟩⟩
  · rcases h.mem.row k xs hx with k1 | ⟨B, s, sz, n, vs, T, fz, k1, k2, k3, k4, k5, k6, k6b, k7, k8⟩ | km
    · exact .inl k1
    · exact .inr (.inl ⟨B, s, sz, n, vs, T, fz, k1, h1 _ k2, by rw [hR k B s sz n k1]; exact k3, k4, k5, k6, k6b, k7, fun i r j g v a1 a2 a3 => keep _ _ (k8 i r j g v a1 a2 a3)⟩)
    · exact .inr (.inr (km.move (fun q h => h) (fun _ _ _ h => h1 _ h) (fun B q hq => hR k B _ _ _ hq) (fun g u _ hu => keep _ _ hu)))
  · rcases h2 B hB with hB | hB
    · exact h.exn B hB
    · exact .inr (by have := h.fr.size; omega)

theorem Inv.lt_alloc {C : Cx} {F : Fd} {st : St} {a : Act} {w : World} (h : Inv C F st a w) (o : Obj) : Inv C F st a (w.alloc o) :=
  h.step (h.fr.alloc o) (keeps_alloc _ w o) (fun b B hb => Below.heap_alloc w o B (h.mem.lt _ (h.mem.ltB hb))) (fun k B s sz n hk => Below.heap_alloc w o B (h.mem.lt _ (h.mem.ltR hk)))
    C.ex (fun _ h => h) (fun _ h => .inl h) (fun B hB => by have := h.mem.lt B hB; simp; omega)
/-- A new block that is the call's own. -/
theorem Inv.own_alloc {C : Cx} {F : Fd} {st : St} {a : Act} {w : World} (h : Inv C F st a w) (o : Obj) : Inv { C with ex := fun B => C.ex B ∨ B = w.heap.size } F st a (w.alloc o) :=
  h.step (h.fr.alloc o) (keeps_alloc _ w o) (fun b B hb => Below.heap_alloc w o B (h.mem.lt _ (h.mem.ltB hb))) (fun k B s sz n hk => Below.heap_alloc w o B (h.mem.lt _ (h.mem.ltR hk)))
    _ (fun _ h => .inl h) (fun _ h => h.imp id (fun e => by omega)) (fun B hB => by rcases hB with hB | hB; have := h.mem.lt B hB; simp; omega; simp; omega)
theorem Inv.heap {C : Cx} {F : Fd} {st : St} {a : Act} {w w' : World} (h : Inv C F st a w) (h1 : w'.heap = w.heap) (h2 : w'.os = w.os) (h3 : w'.tape = w.tape) (h4 : w'.output = w.output) : Inv C F st a w' :=
  h.step ⟨h2.trans h.fr.os, h3.trans h.fr.tape, h4.trans h.fr.output, by rw [h1]; exact h.fr.size, fun B hB hn => by rw [h1]; exact h.fr.block B hB hn, fun B vs T fz hB => by rw [h1]; exact h.fr.ty _ _ _ _ hB⟩ ⟨by rw [h1]; exact Nat.le_refl _, fun B _ _ => by rw [h1], fun B vs T fz hB => ⟨vs, fz, by rw [h1]; exact hB, rfl⟩⟩
    (fun _ _ _ => by rw [h1]) (fun _ _ _ _ _ _ => by rw [h1]) C.ex (fun _ h => h) (fun _ h => .inl h) (fun B hB => by rw [h1]; exact h.mem.lt B hB)
theorem Inv.drew {C : Cx} {F : Fd} {st : St} {a : Act} {w : World} (h : Inv C F st a w) : Inv C F st a w.drew := h.heap rfl rfl rfl rfl
/-- An own block that no variable and no row names has turned. -/
theorem Inv.only {C : Cx} {F : Fd} {st : St} {a : Act} {w w' : World} {B : Nat} {vs : List Value} {T : TypeId} {fz : Nat × Nat} (h : Inv C F st a w) (ho : Only w w' B vs T fz) (he : C.ex B) (ht : F.t0 B ∨ F.w0.heap.size ≤ B)
    (hb : ∀ b, C.box b ≠ some B) (hr : ∀ k s sz n, C.row k ≠ some (some (B, s, sz, n))) : Inv C F st a w' :=
  h.step (ho.fr h.fr ht) (ho.keeps he) (fun b B' hB => ho.block B' (fun e => hb b (e ▸ hB))) (fun k B' s sz n hk => ho.block B' (fun e => hr k s sz n (e ▸ hk))) C.ex (fun _ h => h) (fun _ h => .inl h)
    (fun B' hB' => by rw [ho.size]; exact h.mem.lt B' hB')

/-- A store into an own variable. -/
theorem Inv.store {C : Cx} {F : Fd} {st : St} {a : Act} {w w' : World} {b B : Nat} {cs us : List G} {vs : List Value} {T : TypeId} {off : Nat} {ws : List Value} (h : Inv C F st a w) (hcs : st.boxes[b]? = some (some cs)) (hB : C.box b = some B)
    (hh : w.heap[B]? = some (.cells ⟨vs⟩ T (0, 0))) (ho : Only w w' B (blit vs off ws) T (0, 0)) (hl : ws.length = us.length) (hle : off + us.length ≤ cs.length) (h1 : ∀ v ∈ ws, v.oneCell' = true)
    (hr : ∀ (i : Nat) g v, us[i]? = some g → ws[i]? = some v → g.cell = true ∧ Rep C w g v) : Inv C F (st.setBox b (blit cs off us)) a w' := by
  have he : C.ex B := h.mem.ltB hB
  have hk := ho.keeps he
  have keep : ∀ g v, Rep C w g v → Rep C w' g v := fun g v hg => hg.keep hk (fun _ _ h => h) (fun _ _ h => h) (fun _ _ h => h)
  obtain ⟨B', vs', T', k1, _, k3, k4, k5, k6⟩ := h.mem.box b cs hcs
  rw [hB] at k1; cases k1
  rw [hh] at k3; cases k3
  have hbl : b < st.boxes.length := (List.getElem?_eq_some_iff.1 hcs).1
  refine ⟨h.nd, h.sz, fun i g v hg hv => keep g v (h.slots i g v hg hv), ⟨fun x cs' hx => ?_, fun k xs hx => ?_, fun x X hx => ?_, h.mem.domR, h.mem.bb, h.mem.rr, h.mem.br, fun X hX => by rw [ho.size]; exact h.mem.lt X hX⟩, ho.fr h.fr (h.tb b B hB), h.ex0, h.exn, h.t0, h.tb, h.tr, h.fb⟩
  · by_cases e : x = b
    · subst e
      simp only [St.setBox, List.getElem?_set_self hbl, Option.some.injEq] at hx
      subst hx
      refine ⟨B, _, T, hB, he, ho.here, by rw [blit_length, blit_length]; exact k4, fun v hv => ?_, fun i g v hg hv => ?_⟩
      · obtain ⟨i, hi⟩ := List.mem_iff_getElem?.1 hv
        rw [blit_get _ _ _ _ (by omega)] at hi
        split at hi
        · exact h1 v (List.mem_of_getElem? hi)
        · exact k5 v (List.mem_of_getElem? hi)
      · rw [blit_get _ _ _ _ (by omega)] at hg hv
        rw [hl] at hv
        split at hg
        · rename_i hc
          rw [if_pos hc] at hv
          exact ⟨(hr _ g v hg hv).1, keep _ _ (hr _ g v hg hv).2⟩
        · rename_i hc
          rw [if_neg hc] at hv
          exact ⟨(k6 i g v hg hv).1, keep _ _ (k6 i g v hg hv).2⟩
    · simp only [St.setBox, List.getElem?_set_ne (fun e' => e e'.symm)] at hx
      obtain ⟨X, vs', T', k1, k2, k3, k4, k5, k6⟩ := h.mem.box x cs' hx
      have hne : X ≠ B := fun e' => e (h.mem.bb x b X k1 (by rw [e']; exact hB))
      exact ⟨X, vs', T', k1, k2, by rw [ho.block X hne]; exact k3, k4, k5, fun i g v hg hv => ⟨(k6 i g v hg hv).1, keep _ _ (k6 i g v hg hv).2⟩⟩
  · rcases h.mem.row k xs hx with k1 | ⟨X, s, sz, n, vs', T', fz, k1, k2, k3, k4, k5, k6, k6b, k7, k8⟩ | km
    · exact .inl k1
    · have hne : X ≠ B := fun e' => h.mem.br b k B s sz n hB (by rw [← e']; exact k1)
      exact .inr (.inl ⟨X, s, sz, n, vs', T', fz, k1, k2, by rw [ho.block X hne]; exact k3, k4, k5, k6, k6b, k7, fun i r j g v a1 a2 a3 => keep _ _ (k8 i r j g v a1 a2 a3)⟩)
    · exact .inr (.inr (km.move (fun q h => h) (fun _ _ _ h => h) (fun X q hq => ho.block X (fun e' => h.mem.br b k B _ _ _ hB (by rw [← e']; exact hq))) (fun g u _ hu => keep _ _ hu)))
  · by_cases e : x = b
    · subst e; exact ⟨_, by simp only [St.setBox]; exact List.getElem?_set_self hbl⟩
    · obtain ⟨cs', hcs'⟩ := h.mem.domB x X hx
      exact ⟨cs', by simp only [St.setBox, List.getElem?_set_ne (fun e' => e e'.symm)]; exact hcs'⟩

/-- An own block that nothing names is laid as row k. -/
theorem Inv.addRow {C : Cx} {F : Fd} {st : St} {a : Act} {w : World} {k B s sz n : Nat} {vs : List Value} {T : TypeId} {fz : Nat × Nat} {xs : List (List G)} (h : Inv C F st a w) (hk : C.row k = none) (hlt : k < st.rows.length) (he : C.ex B)
    (ht : F.t0 B ∨ F.w0.heap.size ≤ B) (hb : ∀ b, C.box b ≠ some B) (hr : ∀ k s sz n, C.row k ≠ some (some (B, s, sz, n))) (hh : w.heap[B]? = some (.cells ⟨vs⟩ T fz)) (hn : s + n * sz ≤ vs.length) (hx : 0 < xs.length ∧ xs.length ≤ n)
    (hf : ∀ o : Nat, (o < vs.length ∨ ovlK.isEmpty = false) → ¬ (fz.1 ≤ o ∧ o < fz.2)) (h1 : ∀ v ∈ vs, v.oneCell' = true) (hc : ∀ r ∈ xs, r.length = sz ∧ ∀ g ∈ r, g.closed0 = true)
    (hR : ∀ (i : Nat) r (j : Nat) g v, xs[i]? = some r → r[j]? = some g → vs[s + i * sz + j]? = some v → Rep C w g v) :
    ∃ C', Inv C' F (st.setRow k xs) a w ∧ C'.row k = some (some (B, s, sz, n)) ∧ (∀ x, C'.ex x ↔ C.ex x) := by
  let C' : Cx := { C with row := fun x => if x = k then some (some (B, s, sz, n)) else C.row x }
  have hrow : ∀ x r, C'.row x = some r → (x = k ∧ r = some (B, s, sz, n)) ∨ (x ≠ k ∧ C.row x = some r) := fun x r hx => by
    have hx' : (if x = k then some (some (B, s, sz, n)) else C.row x) = some r := hx
    split at hx'
    · cases hx'; exact .inl ⟨by assumption, rfl⟩
    · exact .inr ⟨by assumption, hx'⟩
  have keep : ∀ g v, Rep C w g v → Rep C' w g v := fun g v hg => hg.keep (Keeps.refl _ _) (fun _ _ h => h) (fun _ _ h => h) (fun x r hx => by
    show (if x = k then _ else _) = _
    rw [if_neg (fun e => by subst e; rw [hk] at hx; cases hx)]; exact hx)
  have hself : C'.row k = some (some (B, s, sz, n)) := by show (if k = k then _ else _) = _; rw [if_pos rfl]
  refine ⟨C', ⟨h.nd, h.sz, fun i g v hg hv => keep g v (h.slots i g v hg hv), ⟨fun b cs hb' => ?_, fun x ys hx' => ?_, h.mem.domB, fun x r hx' => ?_, h.mem.bb, fun x x' X s1 z1 n1 s2 z2 n2 e1 e2 => ?_, fun b x X s1 z1 n1 e1 e2 => ?_, h.mem.lt⟩, h.fr, h.ex0, h.exn, h.t0, h.tb, fun x X s1 z1 n1 e1 => ?_, h.fb⟩, hself, fun _ => Iff.rfl⟩
  · obtain ⟨X, vs', T', k1, k2, k3, k4, k5, k6⟩ := h.mem.box b cs hb'
    exact ⟨X, vs', T', k1, k2, k3, k4, k5, fun i g v hg hv => ⟨(k6 i g v hg hv).1, keep _ _ (k6 i g v hg hv).2⟩⟩
  · by_cases e : x = k
    · subst e
      simp only [St.setRow, List.getElem?_set_self hlt, Option.some.injEq] at hx'
      subst hx'
      exact .inr (.inl ⟨B, s, sz, n, vs, T, fz, hself, he, hh, hn, hx, hf, h1, hc, fun i r j g v a1 a2 a3 => keep _ _ (hR i r j g v a1 a2 a3)⟩)
    · simp only [St.setRow, List.getElem?_set_ne (fun e' => e e'.symm)] at hx'
      have hrx : C'.row x = C.row x := by show (if x = k then _ else _) = _; rw [if_neg e]
      rcases h.mem.row x ys hx' with k1 | ⟨X, s', sz', n', vs', T', fz', k1, k2, k3, k4, k5, k6, k6b, k7, k8⟩ | km
      · exact .inl ⟨hrx.trans k1.1, k1.2⟩
      · exact .inr (.inl ⟨X, s', sz', n', vs', T', fz', hrx.trans k1, k2, k3, k4, k5, k6, k6b, k7, fun i r j g v a1 a2 a3 => keep _ _ (k8 i r j g v a1 a2 a3)⟩)
      · exact .inr (.inr (km.move (fun q h => hrx.trans h) (fun _ _ _ h => h) (fun _ _ _ => rfl) (fun g u _ hu => keep _ _ hu)))
  · rcases hrow x r hx' with ⟨rfl, rfl⟩ | ⟨e, h2⟩
    · exact ⟨xs, by simp only [St.setRow]; exact List.getElem?_set_self hlt⟩
    · obtain ⟨ys, hys⟩ := h.mem.domR x r h2
      exact ⟨ys, by simp only [St.setRow, List.getElem?_set_ne (fun e' => e e'.symm)]; exact hys⟩
  · rcases hrow x _ e1 with ⟨rfl, q⟩ | ⟨e, p1⟩ <;> rcases hrow x' _ e2 with ⟨rfl, q'⟩ | ⟨e', p2⟩
    · rfl
    · cases q; exact absurd p2 (hr _ _ _ _)
    · cases q'; exact absurd p1 (hr _ _ _ _)
    · exact h.mem.rr x x' X s1 z1 n1 s2 z2 n2 p1 p2
  · rcases hrow x _ e2 with ⟨rfl, q⟩ | ⟨e, p⟩
    · cases q; exact hb b e1
    · exact h.mem.br b x X s1 z1 n1 e1 p
  · rcases hrow x _ e1 with ⟨rfl, q⟩ | ⟨e, p⟩
    · cases q; exact ht
    · exact h.tr x X s1 z1 n1 p

/-- A row that is nil. -/
theorem Inv.addNil {C : Cx} {F : Fd} {st : St} {a : Act} {w : World} {k : Nat} (h : Inv C F st a w) (hk : C.row k = none) (hlt : k < st.rows.length) :
    ∃ C', Inv C' F (st.setRow k []) a w ∧ C'.row k = some none ∧ (∀ x, C'.ex x ↔ C.ex x) := by
  let C' : Cx := { C with row := fun x => if x = k then some none else C.row x }
  have hrow : ∀ x r, C'.row x = some r → (x = k ∧ r = none) ∨ (x ≠ k ∧ C.row x = some r) := fun x r hx => by
    have hx' : (if x = k then some none else C.row x) = some r := hx
    split at hx'
    · cases hx'; exact .inl ⟨by assumption, rfl⟩
    · exact .inr ⟨by assumption, hx'⟩
  have keep : ∀ g v, Rep C w g v → Rep C' w g v := fun g v hg => hg.keep (Keeps.refl _ _) (fun _ _ h => h) (fun _ _ h => h) (fun x r hx => by
    show (if x = k then _ else _) = _
    rw [if_neg (fun e => by subst e; rw [hk] at hx; cases hx)]; exact hx)
  have hself : C'.row k = some none := by show (if k = k then _ else _) = _; rw [if_pos rfl]
  refine ⟨C', ⟨h.nd, h.sz, fun i g v hg hv => keep g v (h.slots i g v hg hv), ⟨fun b cs hb' => ?_, fun x ys hx' => ?_, h.mem.domB, fun x r hx' => ?_, h.mem.bb, fun x x' X s1 z1 n1 s2 z2 n2 e1 e2 => ?_, fun b x X s1 z1 n1 e1 e2 => ?_, h.mem.lt⟩, h.fr, h.ex0, h.exn, h.t0, h.tb, fun x X s1 z1 n1 e1 => ?_, h.fb⟩, hself, fun _ => Iff.rfl⟩
  · obtain ⟨X, vs', T', k1, k2, k3, k4, k5, k6⟩ := h.mem.box b cs hb'
    exact ⟨X, vs', T', k1, k2, k3, k4, k5, fun i g v hg hv => ⟨(k6 i g v hg hv).1, keep _ _ (k6 i g v hg hv).2⟩⟩
  · by_cases e : x = k
    · subst e
      simp only [St.setRow, List.getElem?_set_self hlt, Option.some.injEq] at hx'
      subst hx'
      exact .inl ⟨hself, rfl⟩
    · simp only [St.setRow, List.getElem?_set_ne (fun e' => e e'.symm)] at hx'
      have hrx : C'.row x = C.row x := by show (if x = k then _ else _) = _; rw [if_neg e]
      rcases h.mem.row x ys hx' with k1 | ⟨X, s', sz', n', vs', T', fz', k1, k2, k3, k4, k5, k6, k6b, k7, k8⟩ | km
      · exact .inl ⟨hrx.trans k1.1, k1.2⟩
      · exact .inr (.inl ⟨X, s', sz', n', vs', T', fz', hrx.trans k1, k2, k3, k4, k5, k6, k6b, k7, fun i r j g v a1 a2 a3 => keep _ _ (k8 i r j g v a1 a2 a3)⟩)
      · exact .inr (.inr (km.move (fun q h => hrx.trans h) (fun _ _ _ h => h) (fun _ _ _ => rfl) (fun g u _ hu => keep _ _ hu)))
  · rcases hrow x r hx' with ⟨rfl, rfl⟩ | ⟨e, h2⟩
    · exact ⟨[], by simp only [St.setRow]; exact List.getElem?_set_self hlt⟩
    · obtain ⟨ys, hys⟩ := h.mem.domR x r h2
      exact ⟨ys, by simp only [St.setRow, List.getElem?_set_ne (fun e' => e e'.symm)]; exact hys⟩
  · rcases hrow x _ e1 with ⟨rfl, q⟩ | ⟨e, p1⟩
    · cases q
    · rcases hrow x' _ e2 with ⟨rfl, q'⟩ | ⟨e', p2⟩
      · cases q'
      · exact h.mem.rr x x' X s1 z1 n1 s2 z2 n2 p1 p2
  · rcases hrow x _ e2 with ⟨rfl, q⟩ | ⟨e, p⟩
    · cases q
    · exact h.mem.br b x X s1 z1 n1 e1 p
  · rcases hrow x _ e1 with ⟨rfl, q⟩ | ⟨e, p⟩
    · cases q
    · exact h.tr x X s1 z1 n1 p

/-- The free row number k: killed if it was there. -/
def St.freeRow (st : St) (k : Nat) : St :=
  match st.rows.getD k none with
  | none => st
  | some _ => st.killR k
theorem Inv.freeRow {C : Cx} {F : Fd} {st : St} {a : Act} {w : World} (h : Inv C F st a w) (k : Nat) : ∃ C', Inv C' F (st.freeRow k) a w ∧ C'.row k = none ∧ C'.box = C.box ∧ C'.ex = C.ex ∧ (∀ x r, C'.row x = some r → C.row x = some r ∧ x ≠ k) ∧
    (∀ x, x ≠ k → C'.row x = C.row x) := by
  unfold St.freeRow
  cases hb : st.rows.getD k none with
  | none =>
    have hn : C.row k = none := by
      cases hx : C.row k with
      | none => rfl
      | some r =>
        obtain ⟨xs, hxs⟩ := h.mem.domR k r hx
        rw [List.getD_eq_getElem?_getD, hxs] at hb; cases hb
    exact ⟨C, h, hn, rfl, rfl, fun x r hx => ⟨hx, fun e => by subst e; rw [hn] at hx; cases hx⟩, fun _ _ => rfl⟩
  | some _ =>
    refine ⟨_, h.killR k, by show (if k = k then none else _) = _; rw [if_pos rfl], rfl, rfl, fun x r hx => ?_, fun x hx => by show (if x = k then none else _) = _; rw [if_neg hx]⟩
    have hx' : (if x = k then none else C.row x) = some r := hx
    split at hx'
    · cases hx'
    · exact ⟨hx', by assumption⟩
theorem freeRow_len (st : St) (k : Nat) : (st.freeRow k).rows.length = st.rows.length := by
  unfold St.freeRow; split <;> simp [St.killR]
theorem freeRow_boxes (st : St) (k : Nat) : (st.freeRow k).boxes.length = st.boxes.length := by
  unfold St.freeRow; split <;> simp [St.killR]
end Go.Proofs.YtijohhdgecadnaaDoor.Av
namespace Go.Proofs.YtijohhdgecadnaaDoor.Av
open Go Go.RowKit
set_option linter.unusedVariables false
set_option linter.unusedSimpArgs false

/-- Strings compared: it does not unfold in Lean's front, and is stuck at once in the kernel where a string is not known (ByteArray.toList there has no end). -/
@[irreducible] def strEq (a b : ByteArray) : Bool := a.data.toList == b.data.toList
@[irreducible] def strLt (a b : ByteArray) : Bool := Op.bytesLess a.data.toList b.data.toList
theorem strEq_eq (a b : ByteArray) : strEq a b = (a.toList == b.toList) := by unfold strEq; rw [ByteArray.toList_eq, ByteArray.toList_eq]
theorem strLt_eq (a b : ByteArray) : strLt a b = Op.bytesLess a.toList b.toList := by unfold strLt; rw [ByteArray.toList_eq, ByteArray.toList_eq]
theorem strEq_self (a : ByteArray) : strEq a a = true := by rw [strEq_eq]; exact beq_self_eq_true _

def arithP (op : BinOp) (k : IntKind) (m n : Int) (K : G → Prop) : Prop :=
  match op with
  | .add => K (.int k (k.wrap (m + n)))
  | .sub => K (.int k (k.wrap (m - n)))
  | .mul => K (.int k (k.wrap (m * n)))
  | .quo => bif n == 0 then False else K (.int k (k.wrap (m.tdiv n)))
  | .rem => bif n == 0 then False else K (.int k (m.tmod n))
  | .and => K (.int k (k.wrap (BitVec.ofInt k.bits m &&& BitVec.ofInt k.bits n).toNat))
  | .or => K (.int k (k.wrap (BitVec.ofInt k.bits m ||| BitVec.ofInt k.bits n).toNat))
  | .xor => K (.int k (k.wrap (BitVec.ofInt k.bits m ^^^ BitVec.ofInt k.bits n).toNat))
  | .andNot => K (.int k (k.wrap (BitVec.ofInt k.bits m &&& ~~~ BitVec.ofInt k.bits n).toNat))
  | .eql => K (.bool (m == n))
  | .neq => K (.bool (m != n))
  | .lss => K (.bool (decide (m < n)))
  | .leq => K (.bool (decide (m ≤ n)))
  | .gtr => K (.bool (decide (m > n)))
  | .geq => K (.bool (decide (m ≥ n)))
  | _ => False
def strP (op : BinOp) (x y : ByteArray) (K : G → Prop) : Prop :=
  match op with
  | .add => ((x.size + y.size : Nat) : Int) ≤ 9223372036854775807 ∧ K (.str (x ++ y))
  | .eql => K (.bool (strEq x y))
  | .neq => K (.bool (!(strEq x y)))
  | .lss => K (.bool (strLt x y))
  | .leq => K (.bool (strLt x y || strEq x y))
  | .gtr => K (.bool (!(strLt x y || strEq x y)))
  | .geq => K (.bool (!(strLt x y)))
  | _ => False
/-- Types of scalars, and of structs of them, that the model compares part by part. (Worked out by the kernel.) -/
def eqOk (P : Program) : Nat → TypeId → Bool
  | 0, _ => false
  | d + 1, t =>
    match P.underlying t with
    | some (.int _) | some .bool | some .string => true
    | some (.struct fs) => !P.stoodInHeld t && fs.toList.all fun f => f.name != "_" && eqOk P d f.type
    | _ => false
def eqGo (P : Program) (rec' : TypeId → List G → List G → Option Bool) (xs ys : List G) : List Field → Option Bool
  | [] => some true
  | f :: fs =>
    match P.underlying f.type with
    | none => none
    | some dd =>
    bif Nat.ble (f.offset + wide P dd f.type) xs.length && Nat.ble (f.offset + wide P dd f.type) ys.length then
    match rec' f.type ((xs.drop f.offset).take (wide P dd f.type)) ((ys.drop f.offset).take (wide P dd f.type)), eqGo P rec' xs ys fs with
    | some a, some b => some (a && b)
    | _, _ => none
    else none
/-- Equality of scalars, and of structs of scalars, as the model goes through them. -/
def eqT (P : Program) : Nat → TypeId → List G → List G → Option Bool
  | 0, _, _, _ => none
  | d + 1, t, xs, ys =>
    match P.underlying t with
    | some (.int _) => match xs, ys with | [.int k m], [.int k' n] => if k = k' then some (m == n) else none | _, _ => none
    | some .bool => match xs, ys with | [.bool a], [.bool b] => some (a == b) | _, _ => none
    | some .string => match xs, ys with | [.str a], [.str b] => some (strEq a b) | _, _ => none
    | some (.struct fs) => eqGo P (eqT P d) xs ys fs.toList
    | _ => none
def binP (P : Program) (op : BinOp) (t : TypeId) (x y : G) (K : G → Prop) : Prop :=
  match x, y with
  | .int k m, .int k' n =>
    match op with
    | .shl => bif decide (n < 0) then False else K (.int k (k.wrap (m * 2 ^ (min n.toNat k.bits))))
    | .shr => bif decide (n < 0) then False else K (.int k (m.fdiv (2 ^ (min n.toNat k.bits))))
    | op => if k = k' then arithP op k m n K else False
  | .str a, .str b => strP op a b K
  | .bool a, .bool b =>
    match P.underlying t, op with
    | some .bool, .eql => K (.bool (a == b))
    | some .bool, .neq => K (.bool (!(a == b)))
    | _, _ => False
  | .agg xs, .agg ys =>
    (P.eqGuardType P.depth t = false ∧ eqOk P 12 t = true) ∧ if !((P.underlying t).any aggD) then False else
    match op, eqT P 12 t xs ys with
    | .eql, some b => K (.bool b)
    | .neq, some b => K (.bool (!b))
    | _, _ => False
  | _, _ => False
def unP (op : UnOp) (x : G) (K : G → Prop) : Prop :=
  match op, x with
  | .neg, .int k n => K (.int k (k.wrap (0 - n)))
  | .not, .bool b => K (.bool (!b))
  | _, _ => False

theorem arithP_sound {op : BinOp} {k : IntKind} {m n : Int} {K : G → Prop} (h : arithP op k m n K) (P : Program) (t : TypeId) (w : World) (hs : op ≠ .shl) (hr : op ≠ .shr) : ∃ g v, K g ∧ (binOp op t (.int k m) (.int k n)).run P w = .ok v w ∧ ∀ C, Rep C w g v := by
  cases op <;> simp only [arithP] at h <;> first
    | exact absurd rfl hs
    | exact absurd rfl hr
    | exact ⟨_, _, h, by first | (simp [binOp, Op.intArith, Op.intBits, Op.intCmp]; done) | (simp [binOp, Op.intArith, Op.intBits, Op.intCmp]; rfl), fun C => .int ..⟩
    | exact ⟨_, _, h, by first | (simp [binOp, Op.intArith, Op.intBits, Op.intCmp]; done) | (simp [binOp, Op.intArith, Op.intBits, Op.intCmp]; rfl), fun C => .bool ..⟩
    | (cases hb : (n == 0) with
       | true => rw [hb] at h; exact h.elim
       | false =>
         rw [hb] at h
         have hn : ¬ n = 0 := by simpa using hb
         exact ⟨_, _, h, by simp [binOp, Op.intDiv, hn], fun C => .int ..⟩)
theorem strP_sound {op : BinOp} {x y : ByteArray} {K : G → Prop} (h : strP op x y K) (P : Program) (t : TypeId) (w : World) : ∃ g v, K g ∧ (binOp op t (.string x) (.string y)).run P w = .ok v w ∧ ∀ C, Rep C w g v := by
  cases op <;> simp only [strP, strEq_eq, strLt_eq] at h <;> first
    | exact ⟨_, _, h, by first | (simp [binOp, Op.stringOp]; done) | (simp [binOp, Op.stringOp]; rfl), fun C => .bool ..⟩
    | exact h.elim
    | (refine ⟨_, .string (x ++ y), h.2, ?_, fun C => .str ..⟩
       simp only [binOp, Op.stringOp]
       rw [if_neg (by have := h.1; simp [IntKind.max, IntKind.signed, IntKind.bits] at *; omega)]; rfl)

/-- Cells that read as these. -/
def RepL (C : Cx) (w : World) (gs : List G) (vs : List Value) : Prop :=
  vs.length = gs.length ∧ (∀ v ∈ vs, v.oneCell' = true) ∧ ∀ (i : Nat) g v, gs[i]? = some g → vs[i]? = some v → Rep C w g v
theorem RepL.part {C : Cx} {w : World} {gs : List G} {vs : List Value} (h : RepL C w gs vs) (o n : Nat) : RepL C w ((gs.drop o).take n) ((vs.drop o).take n) := by
  refine ⟨by simp [h.1], fun v hv => h.2.1 v (List.mem_of_mem_drop (List.mem_of_mem_take hv)), fun i g v hg hv => ?_⟩
  rw [List.getElem?_take] at hg hv
  split at hg
  · rename_i hi
    rw [if_pos hi] at hv
    rw [List.getElem?_drop] at hg hv
    exact h.2.2 _ g v hg hv
  · cases hg
theorem RepL.one {C : Cx} {w : World} {g : G} {vs : List Value} (h : RepL C w [g] vs) : ∃ v, vs = [v] ∧ Rep C w g v := by
  obtain ⟨h1, _, h3⟩ := h
  match vs, h1 with
  | [v], _ => exact ⟨v, rfl, h3 0 g v rfl rfl⟩
theorem Rep.int_inv {C : Cx} {w : World} {k : IntKind} {n : Int} {v : Value} (h : Rep C w (.int k n) v) : v = .int k n := by cases h; rfl
theorem Rep.bool_inv {C : Cx} {w : World} {b : Bool} {v : Value} (h : Rep C w (.bool b) v) : v = .bool b := by cases h; rfl
theorem Rep.str_inv {C : Cx} {w : World} {s : ByteArray} {v : Value} (h : Rep C w (.str s) v) : v = .string s := by cases h; rfl
theorem Rep.agg_inv {C : Cx} {w : World} {gs : List G} {v : Value} (h : Rep C w (.agg gs) v) : ∃ vs, v = .agg ⟨vs⟩ ∧ RepL C w gs vs ∧ ∀ g ∈ gs, g.cell = true := by
  cases h with
  | agg _ vs hl hc hv h => exact ⟨vs, rfl, ⟨hl, hv, h⟩, hc⟩

theorem run_part_of {P : Program} {t : TypeId} {d : TypeDesc} (hu : P.underlying t = some d) {vs : List Value} {o : Nat} (hle : o + wide P d t ≤ vs.length) (w : World) :
    (part t ⟨vs⟩ o).run P w = .ok (bif aggD d then .agg ⟨(vs.drop o).take (P.cellsOf t)⟩ else vs.getD o undef) w := by
  unfold part
  rw [Sem.run_bind, run_isAgg' hu, Result.andThen_ok]
  unfold wide at hle
  cases ha : aggD d with
  | true =>
    rw [ha] at hle; simp only [cond_true] at hle ⊢
    simp only [if_true, Sem.run_bind, run_size hu, Result.andThen_ok]
    simp only [Sem.run_pure]
    congr 2
    apply Array.toList_inj.1
    simp [List.extract_eq_take_drop]
  | false =>
    rw [ha] at hle; simp only [cond_false] at hle ⊢
    simp only [Bool.false_eq_true, if_false]
    have : (⟨vs⟩ : Array Value)[o]? = some (vs.getD o undef) := by
      rw [List.getD_eq_getElem?_getD]; simp [List.getElem?_eq_getElem (show o < vs.length by omega)]
    rw [this]; rfl

def EqIs (P : Program) (C : Cx) (w : World) (d : Nat) : Prop :=
  ∀ (t : TypeId) (xs ys : List G) (b : Bool) (us vs : List Value) (dd : TypeDesc), eqOk P d t = true → eqT P d t xs ys = some b → P.underlying t = some dd → RepL C w xs us → RepL C w ys vs →
    ∀ D, d ≤ D → (Op.equalIn D t (bif aggD dd then .agg ⟨us⟩ else us.getD 0 undef) (bif aggD dd then .agg ⟨vs⟩ else vs.getD 0 undef)).run P w = .ok b w
theorem part_key (P : Program) (dd : TypeDesc) (t : TypeId) (o : Nat) (zs : List Value) (hz : o + wide P dd t ≤ zs.length) : (bif aggD dd then Value.agg ⟨(zs.drop o).take (P.cellsOf t)⟩ else zs.getD o undef) =
    (bif aggD dd then Value.agg ⟨(zs.drop o).take (wide P dd t)⟩ else ((zs.drop o).take (wide P dd t)).getD 0 undef) := by
  unfold wide at hz ⊢
  cases aggD dd
  · simp only [cond_false] at hz ⊢
    rw [List.getD_eq_getElem?_getD, List.getD_eq_getElem?_getD, List.getElem?_take, if_pos (by omega), List.getElem?_drop]; rfl
  · rfl
theorem eqGo_sound {P : Program} {C : Cx} {w : World} {d : Nat} (ih : EqIs P C w d) {xs ys : List G} {us vs : List Value} (h1 : RepL C w xs us) (h2 : RepL C w ys vs) {D : Nat} (hD : d ≤ D) :
    ∀ (fs : List Field) (b : Bool), fs.all (fun f => f.name != "_" && eqOk P d f.type) = true → eqGo P (eqT P d) xs ys fs = some b → (Op.eqFields D ⟨us⟩ ⟨vs⟩ fs).run P w = .ok b w := by
  intro fs
  induction fs with
  | nil => intro b _ h; simp [eqGo] at h; subst h; rfl
  | cons f fs ihf =>
    intro b hok h
    simp only [List.all_cons, Bool.and_eq_true, bne_iff_ne] at hok
    unfold eqGo at h
    cases hu : P.underlying f.type with
    | none => rw [hu] at h; simp at h
    | some dd =>
      rw [hu] at h
      simp only at h
      cases hle : Nat.ble (f.offset + wide P dd f.type) xs.length && Nat.ble (f.offset + wide P dd f.type) ys.length with
      | false => rw [hle] at h; simp at h
      | true =>
        rw [hle] at h
        simp only [cond_true] at h
        simp only [Bool.and_eq_true] at hle
        have l1 := Nat.le_of_ble_eq_true hle.1
        have l2 := Nat.le_of_ble_eq_true hle.2
        split at h
        · rename_i x y hx hy
          obtain rfl := Option.some.inj h
          have e1 := ih f.type _ _ x _ _ dd hok.1.2 hx hu (h1.part f.offset (wide P dd f.type)) (h2.part f.offset (wide P dd f.type)) D hD
          have e2 := ihf y hok.2 hy
          simp only [Op.eqFields]
          rw [if_pos hok.1.1, Sem.run_bind, run_part_of hu (by rw [h1.1]; exact l1), Result.andThen_ok, Sem.run_bind, run_part_of hu (by rw [h2.1]; exact l2), Result.andThen_ok, Sem.run_bind,
            part_key P dd f.type f.offset us (by rw [h1.1]; exact l1), part_key P dd f.type f.offset vs (by rw [h2.1]; exact l2), e1, Result.andThen_ok]
          cases x
          · rfl
          · simpa using e2
        · cases h
theorem eqT_sound {P : Program} {C : Cx} {w : World} : ∀ (d : Nat), EqIs P C w d := by
  intro d
  induction d with
  | zero => intro t xs ys b us vs dd _ h; simp [eqT] at h
  | succ d ih =>
    intro t xs ys b us vs dd hok h hu h1 h2 D hD
    obtain ⟨D, rfl⟩ : ∃ m, D = m + 1 := ⟨D - 1, by omega⟩
    unfold eqT at h; rw [hu] at h
    cases dd with
    | int k0 =>
      simp only at h
      split at h
      · rename_i k m k' n
        obtain ⟨u, rfl, hu1⟩ := h1.one
        obtain ⟨v, rfl, hv1⟩ := h2.one
        obtain rfl := hu1.int_inv
        obtain rfl := hv1.int_inv
        split at h
        · rename_i e; subst e
          obtain rfl := Option.some.inj h
          exact run_equalIn_int w D t k k0 m n hu
        · cases h
      · cases h
    | bool =>
      simp only at h
      split at h
      · obtain ⟨u, rfl, hu1⟩ := h1.one
        obtain ⟨v, rfl, hv1⟩ := h2.one
        obtain rfl := hu1.bool_inv
        obtain rfl := hv1.bool_inv
        obtain rfl := Option.some.inj h
        exact run_equalIn_bool' w D t _ _ hu
      · cases h
    | string =>
      simp only at h
      split at h
      · obtain ⟨u, rfl, hu1⟩ := h1.one
        obtain ⟨v, rfl, hv1⟩ := h2.one
        obtain rfl := hu1.str_inv
        obtain rfl := hv1.str_inv
        obtain rfl := Option.some.inj h
        rw [strEq_eq]
        exact run_equalIn_string w D t _ _ hu
      · cases h
    | struct fs =>
      simp only at h
      unfold eqOk at hok
      rw [hu] at hok
      simp only [Bool.and_eq_true, Bool.not_eq_true'] at hok
      · have hs := hok.1
        have hf : P.fieldsOf t = fs := by simp [Program.fieldsOf, hu]
        show (Op.equalIn (D + 1) t (.agg ⟨us⟩) (.agg ⟨vs⟩)).run P w = _
        rw [run_equalIn_struct w D t _ _ (by rw [hf]; exact hu) (by simpa using hs), hf]
        exact eqGo_sound ih h1 h2 (by omega) fs.toList b hok.2 h
    | _ => simp at h

theorem binP_sound {P : Program} {op : BinOp} {t : TypeId} {x y : G} {K : G → Prop} (h : binP P op t x y K) {C : Cx} {w : World} {u v : Value} (hx : Rep C w x u) (hy : Rep C w y v) (X Y : Operand) :
    ∃ g z, K g ∧ ((do eqGuard op t X Y u v; binOp op t u v : Sem Value).run P w = .ok z w) ∧ Rep C w g z := by
  unfold binP at h
  split at h
  · obtain rfl := hx.int_inv
    obtain rfl := hy.int_inv
    have hg : ∀ k m k' n, (eqGuard op t X Y (.int k m) (.int k' n)).run P w = .ok () w := fun k m k' n => by unfold eqGuard; cases op <;> rfl
    rw [Sem.run_bind, hg, Result.andThen_ok]
    split at h
    · rename_i k m k' n opx
      cases hb : decide (n < 0) with
      | true => rw [hb] at h; exact h.elim
      | false =>
        rw [hb] at h
        have hn : ¬ n < 0 := by simpa using hb
        exact ⟨_, _, h, by simp only [binOp, Op.shift]; rw [if_neg hn]; rfl, .int ..⟩
    · rename_i k m k' n opx
      cases hb : decide (n < 0) with
      | true => rw [hb] at h; exact h.elim
      | false =>
        rw [hb] at h
        have hn : ¬ n < 0 := by simpa using hb
        exact ⟨_, _, h, by simp only [binOp, Op.shift]; rw [if_neg hn]; rfl, .int ..⟩
    · split at h
      · rename_i hs hr e; subst e
        obtain ⟨g, z, k1, k2, k3⟩ := arithP_sound h P t w (fun e => hs e) (fun e => hr e)
        exact ⟨g, z, k1, k2, k3 C⟩
      · exact h.elim
  · obtain rfl := hx.str_inv
    obtain rfl := hy.str_inv
    have hg : ∀ a b, (eqGuard op t X Y (.string a) (.string b)).run P w = .ok () w := fun a b => by unfold eqGuard; cases op <;> rfl
    rw [Sem.run_bind, hg, Result.andThen_ok]
    obtain ⟨g, z, k1, k2, k3⟩ := strP_sound h P t w
    exact ⟨g, z, k1, k2, k3 C⟩
  · obtain rfl := hx.bool_inv
    obtain rfl := hy.bool_inv
    have hg : ∀ a b, (eqGuard op t X Y (.bool a) (.bool b)).run P w = .ok () w := fun a b => by unfold eqGuard; cases op <;> rfl
    rw [Sem.run_bind, hg, Result.andThen_ok]
    split at h
    · rename_i hu
      exact ⟨_, _, h, by simp only [binOp, Sem.run_bind]; rw [show (Op.equal t _ _ : Sem Bool) = Op.equalIn 10000 t _ _ from rfl, run_equalIn_bool' w 9999 t _ _ hu]; rfl, .bool ..⟩
    · rename_i hu
      exact ⟨_, _, h, by simp only [binOp, Sem.run_bind]; rw [show (Op.equal t _ _ : Sem Bool) = Op.equalIn 10000 t _ _ from rfl, run_equalIn_bool' w 9999 t _ _ hu]; rfl, .bool ..⟩
    · exact h.elim
  · obtain ⟨us, rfl, h1, _⟩ := hx.agg_inv
    obtain ⟨vs, rfl, h2, _⟩ := hy.agg_inv
    · obtain ⟨⟨hq, hok⟩, h⟩ := h
      rw [Sem.run_bind, run_eqGuard_agg w op t X Y _ _ hq, Result.andThen_ok]
      split at h
      · exact h.elim
      rename_i hq2
      have key : ∀ b, eqT P 12 t _ _ = some b → (Op.equalIn 10000 t (.agg ⟨us⟩) (.agg ⟨vs⟩)).run P w = .ok b w := fun b hb => by
        cases hu : P.underlying t with
        | none => rw [hu] at hq2; simp at hq2
        | some dd =>
          rw [hu] at hq2
          have ha : aggD dd = true := by simpa using hq2
          have := eqT_sound 12 t _ _ b us vs dd hok hb hu h1 h2 10000 (by omega)
          rw [ha] at this; exact this
      split at h
      · rename_i b hb
        exact ⟨_, _, h, by rw [run_eql_struct, key b hb]; rfl, .bool _⟩
      · rename_i b hb
        exact ⟨_, _, h, by rw [run_neq_struct, key b hb]; rfl, .bool _⟩
      · exact h.elim
  · exact h.elim
end Go.Proofs.YtijohhdgecadnaaDoor.Av
namespace Go.Proofs.YtijohhdgecadnaaDoor.Av
open Go Go.RowKit
set_option linter.unusedVariables false
set_option linter.unusedSimpArgs false

/-! Values worked out: 'force' is the function's application, and lets the walk work the state out before it goes on. -/
universe v
def fN {β : Sort v} (n : Nat) (k : Nat → β) : β :=
  match n with
  | 0 => k 0
  | m + 1 => k (m + 1)
theorem fN_eq {β : Sort v} (n : Nat) (k : Nat → β) : fN n k = k n := by cases n <;> rfl
def fG (g : G) {β : Sort v} (k : G → β) : β :=
  match g with
  | .int kd n => k (.int kd n)
  | .bool b => k (.bool b)
  | .str s => k (.str s)
  | .lit v => k (.lit v)
  | .fn f caps => k (.fn f caps)
  | .meth f gs => k (.meth f gs)
  | .agg gs => k (.agg gs)
  | .tup gs => k (.tup gs)
  | .sl xs => k (.sl xs)
  | .nils => k .nils
  | .emp => k .emp
  | .ne => k .ne
  | .own a b c => fN a fun a => k (.own a b c)
  | .ptr b o => fN b fun b => k (.ptr b o)
  | .elt r o => fN o fun o => k (.elt r o)
  | .eltw a b c => fN a fun a => k (.eltw a b c)
  | .dat a => fN a fun a => k (.dat a)
  | .dead => k .dead
  | .junk => k .junk
  | .und => k .und
  | .nilt => k .nilt
  | .ptrt b T n => fN b fun b => k (.ptrt b T n)
  | .ownt a l T => fN a fun a => k (.ownt a l T)
  | .datt a T => fN a fun a => k (.datt a T)
  | .mp a n f => fN a fun a => fN n fun n => fN f fun f => k (.mp a n f)
  | .ownf a o l N => fN a fun a => k (.ownf a o l N)
/-! (By recursors: Lean's front goes through 'smart unfoldings' of structural recursions ten times as slowly.) -/
noncomputable def fL {β : Sort v} (l : List G) : (List G → β) → β := List.rec (motive := fun _ => (List G → β) → β) (fun k => k []) (fun g _ ih k => fG g fun g' => ih fun gs' => k (g' :: gs')) l
noncomputable def fLL {β : Sort v} (l : List (List G)) : (List (List G) → β) → β := List.rec (motive := fun _ => (List (List G) → β) → β) (fun k => k []) (fun r _ ih k => fL r fun r' => ih fun rs' => k (r' :: rs')) l
noncomputable def fA (g : G) {β : Sort v} (k : G → β) : β :=
  match g with
  | .agg gs => fL gs fun gs' => k (.agg gs')
  | .fn f caps => fL caps fun caps' => k (.fn f caps')
  | .meth f gs => fL gs fun gs' => k (.meth f gs')
  | g => fG g k
noncomputable def fS {β : Sort v} (l : List G) : (List G → β) → β := List.rec (motive := fun _ => (List G → β) → β) (fun k => k []) (fun g _ ih k => fA g fun g' => ih fun gs' => k (g' :: gs')) l
noncomputable def fO (o : Option (List G)) {β : Sort v} (k : Option (List G) → β) : β :=
  match o with
  | none => k none
  | some cs => fL cs fun cs' => k (some cs')
noncomputable def fB {β : Sort v} (l : List (Option (List G))) : (List (Option (List G)) → β) → β := List.rec (motive := fun _ => (List (Option (List G)) → β) → β) (fun k => k []) (fun o _ ih k => fO o fun o' => ih fun os' => k (o' :: os')) l
def fP (o : Option (List (List G))) {β : Sort v} (k : Option (List (List G)) → β) : β :=
  match o with
  | none => k none
  | some xs => k (some xs)
noncomputable def fR {β : Sort v} (l : List (Option (List (List G)))) : (List (Option (List (List G))) → β) → β := List.rec (motive := fun _ => (List (Option (List (List G))) → β) → β) (fun k => k []) (fun o _ ih k => fP o fun o' => ih fun os' => k (o' :: os')) l
noncomputable def St.force (st : St) {β : Sort v} (k : St → β) : β := fS st.slots fun s => fB st.boxes fun b => fR st.rows fun r => k ⟨s, b, r⟩
theorem fG_eq {β : Sort v} (g : G) (k : G → β) : fG g k = k g := by
  cases g with
  | own a b c => show fN a (fun a => k (.own a b c)) = _; rw [fN_eq]
  | ptr b o => show fN b (fun b => k (.ptr b o)) = _; rw [fN_eq]
  | elt r o => show fN o (fun o => k (.elt r o)) = _; rw [fN_eq]
  | eltw a b c => show fN a (fun a => k (.eltw a b c)) = _; rw [fN_eq]
  | dat a => show fN a (fun a => k (.dat a)) = _; rw [fN_eq]
  | ptrt b T n => show fN b (fun b => k (.ptrt b T n)) = _; rw [fN_eq]
  | ownt a l T => show fN a (fun a => k (.ownt a l T)) = _; rw [fN_eq]
  | datt a T => show fN a (fun a => k (.datt a T)) = _; rw [fN_eq]
  | ownf a o l N => show fN a (fun a => k (.ownf a o l N)) = _; rw [fN_eq]
  | mp a n f => show fN a (fun a => fN n fun n => fN f fun f => k (.mp a n f)) = _; rw [fN_eq, fN_eq, fN_eq]
  | _ => rfl
theorem fL_eq {β : Sort v} : ∀ (gs : List G) (k : List G → β), fL gs k = k gs
  | [], k => rfl
  | g :: gs, k => by show fG g (fun g' => fL gs fun gs' => k (g' :: gs')) = _; rw [fG_eq, fL_eq gs]
theorem fLL_eq {β : Sort v} : ∀ (rs : List (List G)) (k : List (List G) → β), fLL rs k = k rs
  | [], k => rfl
  | r :: rs, k => by show fL r (fun r' => fLL rs fun rs' => k (r' :: rs')) = _; rw [fL_eq, fLL_eq rs]
theorem fA_eq {β : Sort v} (g : G) (k : G → β) : fA g k = k g := by
  cases g <;> first | rfl | (simp only [fA, fL_eq, fG_eq])
theorem fS_eq {β : Sort v} : ∀ (gs : List G) (k : List G → β), fS gs k = k gs
  | [], k => rfl
  | g :: gs, k => by show fA g (fun g' => fS gs fun gs' => k (g' :: gs')) = _; rw [fA_eq, fS_eq gs]
theorem fO_eq {β : Sort v} (o : Option (List G)) (k : Option (List G) → β) : fO o k = k o := by
  cases o <;> first | rfl | (simp only [fO, fL_eq])
theorem fB_eq {β : Sort v} : ∀ (os : List (Option (List G))) (k : List (Option (List G)) → β), fB os k = k os
  | [], k => rfl
  | o :: os, k => by show fO o (fun o' => fB os fun os' => k (o' :: os')) = _; rw [fO_eq, fB_eq os]
theorem fR_eq {β : Sort v} : ∀ (os : List (Option (List (List G)))) (k : List (Option (List (List G))) → β), fR os k = k os
  | [], k => rfl
  | o :: os, k => by show fP o (fun o' => fR os fun os' => k (o' :: os')) = _; cases o <;> (unfold fP; simp only [fR_eq os])
theorem St.force_eq {β : Sort v} (st : St) (k : St → β) : st.force k = k st := by unfold St.force; rw [fS_eq, fB_eq, fR_eq]


noncomputable def setK {β : Sort v} (l : List G) : Nat → G → (List G → β) → β := List.rec (motive := fun _ => Nat → G → (List G → β) → β) (fun _ _ k => k [])
  (fun x xs ih n g k => Nat.rec (motive := fun _ => β) (k (g :: xs)) (fun m _ => ih m g fun xs' => k (x :: xs')) n) l
theorem setK_eq {β : Sort v} : ∀ (xs : List G) (n : Nat) (g : G) (k : List G → β), setK xs n g k = k (xs.set n g)
  | [], n, g, k => by rw [List.set_nil]; rfl
  | x :: xs, 0, g, k => rfl
  | x :: xs, n + 1, g, k => by show setK xs n g (fun xs' => k (x :: xs')) = _; rw [setK_eq xs n g]; rfl
/-- The state behind an operation, worked out. -/
def St.next (st : St) (pure : Bool) (d : Option Tmp) (g : G) (k : St → Prop) : Prop :=
  fA g fun g => bif pure then (match d with | some d => (match st with | ⟨sl, bx, rw'⟩ => setK sl d g fun s => k ⟨s, bx, rw'⟩) | none => k st)
    else st.force fun st => (match d with | some d => setK st.slots d g fun s => k ⟨s, st.boxes, st.rows⟩ | none => k st)
theorem St.next_eq (st : St) (pure : Bool) (d : Option Tmp) (g : G) (k : St → Prop) : st.next pure d g k = k (st.put d g) := by
  unfold St.next St.put
  rw [fA_eq, St.force_eq]
  cases pure <;> cases d <;> simp only [cond_true, cond_false, setK_eq]

def zG : Value → G
  | .int k n => .int k n
  | .bool b => .bool b
  | .string s => .str s
  | .slice none 0 0 => .nils
  | v => .lit v
def zeroCells (P : Program) (t : TypeId) : Option (List G) :=
  match P.info? t with
  | some i => match i.zero with
    | some z => if z.cells.toList.all (·.oneCell') && (z.cells.toList.length == i.size) then some (z.cells.toList.map zG) else none
    | none => none
  | none => none
def fieldOf (P : Program) (s : TypeId) (f : Nat) : Option Field :=
  match P.underlying s with
  | some (.struct fs) => fs[f]?
  | _ => none
def okReg (g : G) : Bool := g.cell || (match g with | .agg _ => true | _ => false)

def loadP (P : Program) (t : TypeId) (st : St) (p : G) (k : G → Prop) : Prop :=
  match P.underlying t with
  | none => False
  | some d =>
    match p with
    | .ptr b off => match st.boxes.getD b none with
      | some cs => bif Nat.ble (off + wide P d t) cs.length then k (rdC P d t off cs) else False
      | none => False
    | .elt row off => bif Nat.ble (off + wide P d t) row.length then k (rdC P d t off row) else False
    | .eltw kk i off => match st.rows.getD kk none with
      | some xs => ∃ row, xs[i]? = some row ∧ bif Nat.ble (off + wide P d t) row.length then k (rdC P d t off row) else False
      | none => False
    | _ => False
def storeP (P : Program) (t : TypeId) (st : St) (p x : G) (k : St → Prop) : Prop :=
  match P.underlying t with
  | none => False
  | some d =>
    match p with
    | .ptr b off => match st.boxes.getD b none with
      | some cs => bif okReg x && (x.cells.length == P.cellsOf t) && Nat.ble (off + P.cellsOf t) cs.length then k (st.setBox b (blit cs off x.cells)) else False
      | none => False
    | _ => False
def fieldPl (P : Program) (fs : Array Field) (i : Nat) : Option (Nat × Nat) :=
  match fs[i]? with
  | some f => some (f.offset, P.cellsOf f.type)
  | none => none
noncomputable def buildCells (pl : Nat → Option (Nat × Nat)) (st : St) (cs : List G) : List (Nat × Operand) → Option (List G)
  | [] => some cs
  | (i, x) :: rest =>
    match pl i with
    | none => none
    | some (o, n) => if okReg (st.ev x) && ((st.ev x).cells.length == n) && Nat.ble (o + n) cs.length then fL (blit cs o (st.ev x).cells) fun cs' => buildCells pl st cs' rest else none
def chunk (len n : Nat) (gs : List G) : List (List G) := (List.range len).map fun i => (gs.drop (i * n)).take n
def repCells (len n : Nat) (zc : List G) : List G := (List.range (len * n)).map fun i => zc.getD (i % n) .junk
def lenG (d : TypeDesc) (g : G) : Option Int :=
  match g with
  | .agg _ => match d with | .array n _ => some n | _ => none
  | .str s => some s.size
  | .sl xs => some xs.length
  | .nils => some 0
  | .emp => some 0
  | .ne => some 0
  | .own _ _ l => some l
  | .nilt => some 0
  | .ownt _ l _ => some l
  | .ownf _ _ l _ => some l
  | _ => none
def isStrOrSl : TypeDesc → G → Bool
  | .string, .str _ => true
  | .slice _, .nilt | .slice _, .ownt .. => true
  | .slice _, .ownf .. => true
  | .slice _, .sl _ | .slice _, .nils | .slice _, .emp | .slice _, .ne | .slice _, .own .. => true
  | .array _ _, .agg _ => true
  | _, _ => false
def min2G : G → G → Option G
  | .int k x, .int _ y => some (.int k (if y < x then y else x))
  | _, _ => none
def max2G : G → G → Option G
  | .int k x, .int _ y => some (.int k (if y > x then y else x))
  | _, _ => none
def foldG (f : G → G → Option G) : G → List G → Option G
  | x, [] => some x
  | x, y :: ys => match f x y with | some z => foldG f z ys | none => none
def byteAt (s : ByteArray) (i : Nat) : Int := ((s.data.toList.getD i 0).toNat : Int)
def boundP (x : Option G) (dflt : Nat) (k : Nat → Int → Prop) : Prop :=
  match x with
  | none => k dflt dflt
  | some (.int _ n) => k n.toNat n
  | some _ => False

def vop (P : Program) (d : Nat) (op : Op) (st : St) (k : G → St → Prop) : Prop :=
  match op with
  | .move x | .assign x => k (st.ev x) st
  | .pick c a b => match st.ev c with
    | .bool t => bif t then k (st.ev a) st else k (st.ev b) st
    | _ => False
  | .alloc t => match zeroCells P t with
    | some cs => bif Nat.blt d st.boxes.length && Nat.blt d st.slots.length then k (.ptr d 0) (st.newBox d cs) else False
    | none => False
  | .box _ x => bif (Nat.blt d st.boxes.length && Nat.blt d st.slots.length) && okReg (st.ev x) then k (.ptr d 0) (st.newBox d (st.ev x).cells) else False
  | .load t x => loadP P t st (st.ev x) fun g => k g st
  | .store t a x => storeP P t st (st.ev a) (st.ev x) fun st' => k .junk st'
  | .binOp op t x y _ => binP P op t (st.ev x) (st.ev y) fun g => k g st
  | .unOp op _ x => unP op (st.ev x) fun g => k g st
  | .build t parts => match P.underlying t, zeroCells P t with
    | some (.struct fs), some cs => bif fs.toList.all (fun f => (P.info? f.type).isSome) then match buildCells (fieldPl P fs) st cs parts.toList with
      | some gs => k (.agg gs) st
      | none => False
      else False
    | some (.array _ e), some cs => bif (P.info? e).isSome then match buildCells (fun i => some (i * P.cellsOf e, P.cellsOf e)) st cs parts.toList with
      | some gs => k (.agg gs) st
      | none => False
      else False
    | _, _ => False
  | .buildSlice t len parts => match P.underlying t with
    | some (.slice e) => match zeroCells P e with
      | some zc => bif (P.cellsOf e == 0) || !(Nat.ble (len * P.cellsOf e) 16777216) then False else
        match buildCells (fun i => some (i * P.cellsOf e, P.cellsOf e)) st (repCells len (P.cellsOf e) zc) parts.toList with
        | some gs => bif gs.all G.closed0 then fLL (chunk len (P.cellsOf e) gs) fun xs => k (.sl xs) st else False
        | none => False
      | none => False
    | _ => False
  | .fieldAddr s x f => match fieldOf P s f with
    | some fl => bif (P.cellsOf fl.type == 0) || (P.info? fl.type).isNone then False else match st.ev x with
      | .ptr b off => k (.ptr b (off + fl.offset)) st
      | .ptrt b _ _ => k (.ptr b (0 + fl.offset)) st
      | .elt row off => k (.elt row (off + fl.offset)) st
      | .eltw kk i off => k (.eltw kk i (off + fl.offset)) st
      | _ => False
    | none => False
  | .field t x f => match fieldOf P t f, st.ev x with
    | some fl, .agg gs => match P.underlying fl.type with
      | some dd => bif Nat.ble (fl.offset + wide P dd fl.type) gs.length then k (rdC P dd fl.type fl.offset gs) st else False
      | none => False
    | _, _ => False
  | .indexAddr t x i => match P.underlying t, st.ev x, st.ev i with
    | some (.slice e), .sl xs, .int _ n => ∃ row, (0 ≤ n ∧ xs[n.toNat]? = some row) ∧ bif (row.length == P.cellsOf e) && (P.info? e).isSome then k (.elt row 0) st else False
    | some (.slice e), .own kk off len, .int _ n => match st.rows.getD kk none with
      | some xs => ∃ row, (0 ≤ n ∧ n < len ∧ xs[off + n.toNat]? = some row) ∧ bif (row.length == P.cellsOf e) && (P.info? e).isSome then k (.eltw kk (off + n.toNat) 0) st else False
      | none => False
    | some (.array len e), .ptr b off, .int _ n => (0 ≤ n ∧ n < len) ∧ bif (P.info? e).isSome then k (.ptr b (off + n.toNat * P.cellsOf e)) st else False
    | _, _, _ => False
  | .index t x i => match P.underlying t, st.ev x, st.ev i with
    | some .string, .str s, .int _ n => (0 ≤ n ∧ n < s.size) ∧ k (.int .u8 (byteAt s n.toNat)) st
    | some (.array len e), .agg gs, .int _ n => match P.underlying e with
      | some dd => bif (gs.length == len * P.cellsOf e) && (wide P dd e == P.cellsOf e) then (0 ≤ n ∧ n < len) ∧ k (rdC P dd e (n.toNat * P.cellsOf e) gs) st else False
      | none => False
    | _, _, _ => False
  | .extract x i => match st.ev x with
    | .tup gs => match gs[i]? with
      | some g => k g st
      | none => False
    | _ => False
  | .nilCheck x => match st.ev x with
    | .ptr b off => k (.ptr b off) st
    | .elt row off => k (.elt row off) st
    | .eltw kk i off => k (.eltw kk i off) st
    | .fn f caps => k (.fn f caps) st
    | .ptrt b T n => k (.ptrt b T n) st
    | _ => False
  | .convert src dst x => match P.underlying src, P.underlying dst, st.ev x with
    | some _, some (.int kd), .int _ n => k (.int kd (kd.wrap n)) st
    | some .string, some .string, .str s => k (.str s) st
    | _, _, _ => False
  | .slice t x lo hi none => match P.underlying t, st.ev x with
    | some .string, .str s => boundP (hi.map st.ev) s.size fun h hz => boundP (lo.map st.ev) 0 fun l lz => (0 ≤ lz ∧ lz ≤ hz ∧ hz ≤ s.size) ∧ k (.str (s.extract l h)) st
    | some (.slice e), .sl xs => bif (P.info? e).isNone then False else boundP (hi.map st.ev) xs.length fun h hz => boundP (lo.map st.ev) 0 fun l lz => (0 ≤ lz ∧ lz ≤ hz ∧ hz ≤ xs.length ∧ ∀ r ∈ xs, r.length = P.cellsOf e) ∧ k (.sl ((xs.take h).drop l)) st
    | _, _ => False
  | .makeFunc (.func f) first caps => bif first.isEmpty && caps.toList.all (fun x => okReg (st.ev x)) then k (.fn f (caps.toList.map st.ev)) st else
    bif caps.isEmpty && first.toList.all (fun x => okReg (st.ev x)) then k (.meth f (first.toList.map st.ev)) st else False
  | .makeInterface t x => match P.underlying t, st.ev x with
    | some (.int _), .int kk n => k (.lit (.iface t (.int kk n))) st
    | some .string, .str s => k (.lit (.iface t (.string s))) st
    | _, _ => False
  | .call { callee := .builtin b, args, argTypes } => match b, args.toList.map st.ev with
    | .len, [x] => match argTypes[0]? with
      | some t => match P.underlying t with
        | some dd => match lenG dd x with
          | some n => bif isStrOrSl dd x then k (.int .i64 n) st else False
          | none => False
        | none => False
      | none => False
    | .min, x :: xs => match foldG min2G x xs with
      | some g => k g st
      | none => False
    | .max, x :: xs => match foldG max2G x xs with
      | some g => k g st
      | none => False
    | _, _ => False
  | _ => False

theorem zG_rep (C : Cx) (w : World) {v : Value} (h : v.oneCell' = true) : (zG v).cell = true ∧ Rep C w (zG v) v := by
  unfold zG
  split
  · exact ⟨rfl, .int ..⟩
  · exact ⟨rfl, .bool ..⟩
  · exact ⟨rfl, .str ..⟩
  · exact ⟨rfl, .nils⟩
  · exact ⟨rfl, .lit _ h⟩
theorem zeroCells_sound {P : Program} {t : TypeId} {cs : List G} (h : zeroCells P t = some cs) (w : World) : ∃ z : Value, (zeroValue t).run P w = .ok z w ∧ z.cells.toList.length = cs.length ∧ cs.length = P.cellsOf t ∧
    (∀ v ∈ z.cells.toList, v.oneCell' = true) ∧ ∀ C w (i : Nat) g v, cs[i]? = some g → z.cells.toList[i]? = some v → g.cell = true ∧ Rep C w g v := by
  unfold zeroCells at h
  split at h
  · rename_i i hi
    split at h
    · rename_i z hz
      split at h
      · rename_i hc
        obtain rfl := Option.some.inj h
        simp only [Bool.and_eq_true, List.all_eq_true, beq_iff_eq] at hc
        refine ⟨z, ?_, by simp, ?_, hc.1, fun C w i g v hg hv => ?_⟩
        · unfold zeroValue
          rw [Sem.run_bind, Go.run_typeInfo w hi, Result.andThen_ok, hz]; rfl
        · rw [List.length_map, hc.2]; simp [Program.cellsOf, hi]
        · rw [List.getElem?_map, hv] at hg
          obtain rfl := Option.some.inj hg
          exact zG_rep C w (hc.1 v (List.mem_of_getElem? hv))
      · cases h
    · cases h
  · cases h

/-- What the operation comes to: a value, or nothing. -/
def Goes (P : Program) (o : Oper) (a : Act) (w : World) (R : Value → World → Prop) : Prop :=
  ∃ v w', ((execOp a.eval o).run P w = .ok (.value v) w' ∨ ((execOp a.eval o).run P w = .ok .skip w' ∧ v = undef)) ∧ R v w'
theorem Goes.wp {P : Program} {o : Oper} {a : Act} {w : World} {R : Value → World → Prop} (h : Goes P o a w R) {K : Act → World → Prop} {Q : Exit → Act → World → Prop} (hk : ∀ v w', R v w' → K (a.put o.dst v) w') : o.wp P a w K Q := by
  obtain ⟨v, w', h | ⟨h, rfl⟩, hR⟩ := h
  · unfold Oper.wp; rw [h]; exact hk _ _ hR
  · unfold Oper.wp; rw [h]; exact hk _ _ hR

def After (F : Fd) (k : G → St → Prop) (a : Act) (v : Value) (w' : World) : Prop := ∃ C' g st', k g st' ∧ Inv C' F st' a w' ∧ Rep C' w' g v

theorem run_bind_ok {P : Program} {α : Type} {s : Sem α} {w w' : World} {v : α} (h : s.run P w = .ok v w') {f : α → Next} : (do pure (f (← s)) : Sem Next).run P w = .ok (f v) w' := by
  rw [Sem.run_bind, h]; rfl

theorem Inv.cellsOf {C : Cx} {F : Fd} {st : St} {a : Act} {w : World} (h : Inv C F st a w) {b : Nat} {cs : List G} (hb : st.boxes.getD b none = some cs) : st.boxes[b]? = some (some cs) := by
  rw [List.getD_eq_getElem?_getD] at hb
  cases hx : st.boxes[b]? with
  | none => rw [hx] at hb; cases hb
  | some o => rw [hx] at hb; simp at hb; rw [hb]
theorem rowsOf {st : St} {k : Nat} {xs : List (List G)} (hb : st.rows.getD k none = some xs) : st.rows[k]? = some (some xs) := by
  rw [List.getD_eq_getElem?_getD] at hb
  cases hx : st.rows[k]? with
  | none => rw [hx] at hb; cases hb
  | some o => rw [hx] at hb; simp at hb; rw [hb]

theorem loadP_sound {P : Program} {t : TypeId} {st : St} {p : G} {k : G → Prop} (h : loadP P t st p k) {C : Cx} {F : Fd} {a : Act} {w : World} (hi : Inv C F st a w) {u : Value} (hp : Rep C w p u) :
    ∃ g v, k g ∧ (Instr.loadAt t u).run P w = .ok v w ∧ Rep C w g v := by
  unfold loadP at h
  split at h
  · exact h.elim
  · rename_i d hu
    split at h
    · rename_i b off
      cases hp with
      | ptr _ _ B hb =>
        split at h
        · rename_i cs hcs
          cases hle : Nat.ble (off + wide P d t) cs.length with
          | false => rw [hle] at h; exact h.elim
          | true =>
            rw [hle] at h
            obtain ⟨B', vs, T, k1, k2, k3, k4, k5, k6⟩ := hi.mem.box b cs (hi.cellsOf hcs)
            rw [hb] at k1; cases k1
            obtain ⟨v, hv, hr⟩ := load_sound (P := P) (C := C) (w := w) (gs := cs) (B := B) (o := 0) (fun j g hg => by
              have hj : j < vs.length := by rw [k4]; exact (List.getElem?_eq_some_iff.1 hg).1
              have hvj : vs[j]? = some vs[j] := List.getElem?_eq_getElem hj
              exact ⟨vs[j], by rw [Nat.zero_add, cell_of_block k3]; exact hvj, (k6 j g _ hg hvj).1, k5 _ (List.getElem_mem hj), (k6 j g _ hg hvj).2⟩) hu off (Nat.le_of_ble_eq_true hle)
            exact ⟨_, v, h, by rw [Nat.zero_add] at hv; simpa [Instr.loadAt, Instr.sureAddr] using hv, hr⟩
        · exact h.elim
    · rename_i row off
      cases hp with
      | elt _ _ B o f hlt hex hcl hcell hr0 =>
        cases hle : Nat.ble (off + wide P d t) row.length with
        | false => rw [hle] at h; exact h.elim
        | true =>
          rw [hle] at h
          obtain ⟨v, hv, hr⟩ := load_sound (P := P) (C := C) (w := w) (gs := row) (B := B) (o := o) (fun j g hg =>
            have hc := hcl g (List.mem_of_getElem? hg)
            ⟨f j, hcell j g hg, closed0_cell hc, (hr0 j g hg).oneCell (closed0_cell hc), hr0 j g hg⟩) hu off (Nat.le_of_ble_eq_true hle)
          exact ⟨_, v, h, by simpa [Instr.loadAt, Instr.sureAddr] using hv, hr⟩
    · rename_i kk i off
      cases hp with
      | eltw _ _ _ B s sz n hk hn0 =>
        split at h
        · rename_i xs hxs
          obtain ⟨row, hrow, h⟩ := h
          cases hle : Nat.ble (off + wide P d t) row.length with
          | false => rw [hle] at h; exact h.elim
          | true =>
            rw [hle] at h
            rcases hi.mem.row kk xs (rowsOf hxs) with k1 | ⟨B', s', sz', n', vs, T, fz, k1, k2, k3, k4, k5, k6, k6b, k7, k8⟩ | km
            rotate_left 2
            · exact (km.np hk hn0).elim
            · rw [hk] at k1; cases k1.1
            · rw [hk] at k1; cases k1
              obtain ⟨hrl, hrc⟩ := k7 row (List.mem_of_getElem? hrow)
              have hi' : i < xs.length := (List.getElem?_eq_some_iff.1 hrow).1
              obtain ⟨v, hv, hr⟩ := load_sound (P := P) (C := C) (w := w) (gs := row) (B := B) (o := s + i * sz) (fun j g hg => by
                have hj0 : j < sz := by rw [← hrl]; exact (List.getElem?_eq_some_iff.1 hg).1
                have hj : s + i * sz + j < vs.length := by
                  have : (i + 1) * sz ≤ n * sz := Nat.mul_le_mul_right _ (by omega)
                  rw [Nat.succ_mul] at this; omega
                have hvj : vs[s + i * sz + j]? = some vs[s + i * sz + j] := List.getElem?_eq_getElem hj
                have hc := hrc g (List.mem_of_getElem? hg)
                exact ⟨_, by rw [cell_of_block k3]; exact hvj, closed0_cell hc, k6b _ (List.getElem_mem hj), k8 i row j g _ hrow hg hvj⟩) hu off (Nat.le_of_ble_eq_true hle)
              exact ⟨_, v, h, by simpa [Instr.loadAt, Instr.sureAddr] using hv, hr⟩
        · exact h.elim
    · exact h.elim

theorem storeP_sound {P : Program} {t : TypeId} {st : St} {p x : G} {k : St → Prop} (h : storeP P t st p x k) {C : Cx} {F : Fd} {a : Act} {w : World} (hi : Inv C F st a w) {u v : Value} (hp : Rep C w p u) (hx : Rep C w x v) :
    ∃ st' w', k st' ∧ (Instr.storeAt t u v).run P w = .ok () w' ∧ Inv C F st' a w' := by
  unfold storeP at h
  split at h
  · exact h.elim
  · rename_i d hu
    split at h
    · rename_i b off
      cases hp with
      | ptr _ _ B hb =>
        split at h
        · rename_i cs hcs
          cases hc : okReg x && (x.cells.length == P.cellsOf t) && Nat.ble (off + P.cellsOf t) cs.length with
          | false => rw [hc] at h; exact h.elim
          | true =>
            rw [hc] at h
            simp only [Bool.and_eq_true, beq_iff_eq] at hc
            obtain ⟨⟨c1, c2⟩, c3⟩ := hc
            have c3 := Nat.le_of_ble_eq_true c3
            obtain ⟨r1, r2, r3⟩ := hx.cells (by
              unfold okReg at c1
              cases x <;> first | exact .inl rfl | exact .inr ⟨_, rfl⟩ | simp [G.cell] at c1)
            obtain ⟨B', vs, T, k1, k2, k3, k4, k5, k6⟩ := hi.mem.box b cs (hi.cellsOf hcs)
            rw [hb] at k1; cases k1
            obtain ⟨w', hw, ho⟩ := run_storeVar_on (P := P) k3 hu (v := v) (o := off) (by rw [r1, c2]) (by omega) r2 (fun p hp => by simp)
            exact ⟨_, w', h, by simpa [Instr.storeAt, Instr.sureAddr] using hw, hi.store (hi.cellsOf hcs) hb k3 ho r1 (by omega) r2 r3⟩
        · exact h.elim
    · exact h.elim
end Go.Proofs.YtijohhdgecadnaaDoor.Av
namespace Go.Proofs.YtijohhdgecadnaaDoor.Av
open Go Go.RowKit
set_option linter.unusedVariables false
set_option linter.unusedSimpArgs false

section
variable {P : Program} {o : Oper} {st : St} {k : G → St → Prop} {C : Cx} {F : Fd} {a : Act} {w : World}

theorem after_same (hi : Inv C F st a w) {g : G} {v : Value} (hk : k g st) (hr : Rep C w g v) : After F k a v w := ⟨C, g, st, hk, hi, hr⟩

theorem goes_pure {g : G} {v : Value} {op : Op} (ho : o.op = op) (hi : Inv C F st a w) (hrun : ∀ o' : Oper, o'.op = op → o'.type = o.type → (execOp a.eval o').run P w = .ok (.value v) w) (hk : k g st) (hr : Rep C w g v) : Goes P o a w (After F k a) :=
  ⟨v, w, .inl (hrun o ho rfl), after_same hi hk hr⟩

theorem foldG_sound {f : G → G → Option G} {f' : Value → Value → Sem Value} (hf : ∀ x y g u v, f x y = some g → Rep C w x u → Rep C w y v → ∃ z, (f' u v).run P w = .ok z w ∧ Rep C w g z) :
    ∀ (xs : List G) (x g : G) (u : Value) (vs : List Value), foldG f x xs = some g → Rep C w x u → vs.length = xs.length → (∀ (i : Nat) g v, xs[i]? = some g → vs[i]? = some v → Rep C w g v) → ∃ z, (vs.foldlM f' u).run P w = .ok z w ∧ Rep C w g z
  | [], x, g, u, vs, h, hx, hl, hr => by
    obtain rfl : vs = [] := List.length_eq_zero_iff.1 hl
    rw [foldG] at h; cases h
    exact ⟨u, rfl, hx⟩
  | y :: xs, x, g, u, [], h, hx, hl, hr => by simp at hl
  | y :: xs, x, g, u, v :: vs, h, hx, hl, hr => by
    rw [foldG] at h
    split at h
    · rename_i z hz
      obtain ⟨z', h1, h2⟩ := hf x y z u v hz hx (hr 0 y v rfl rfl)
      obtain ⟨q, h3, h4⟩ := foldG_sound hf xs z g z' vs h h2 (by simpa using hl) (fun i g v hg hv => hr (i + 1) g v (by simpa using hg) (by simpa using hv))
      exact ⟨q, by rw [List.foldlM_cons, Sem.run_bind, h1]; exact h3, h4⟩
    · cases h
theorem min2_ok (x y g : G) (u v : Value) (h : min2G x y = some g) (hx : Rep C w x u) (hy : Rep C w y v) : ∃ z, (Builtin.min2 u v).run P w = .ok z w ∧ Rep C w g z := by
  unfold min2G at h
  split at h
  · obtain rfl := hx.int_inv
    obtain rfl := hy.int_inv
    obtain rfl := Option.some.inj h
    exact ⟨_, rfl, .int ..⟩
  · cases h
theorem max2_ok (x y g : G) (u v : Value) (h : max2G x y = some g) (hx : Rep C w x u) (hy : Rep C w y v) : ∃ z, (Builtin.max2 u v).run P w = .ok z w ∧ Rep C w g z := by
  unfold max2G at h
  split at h
  · obtain rfl := hx.int_inv
    obtain rfl := hy.int_inv
    obtain rfl := Option.some.inj h
    exact ⟨_, rfl, .int ..⟩
  · cases h

theorem okReg_cases {g : G} (h : okReg g = true) : g.cell = true ∨ ∃ gs, g = .agg gs := by
  unfold okReg at h
  cases g <;> first | exact .inl rfl | exact .inr ⟨_, rfl⟩ | simp [G.cell] at h

theorem fill_sound (pl : Nat → Option (Nat × Nat)) (hi : Inv C F st a w) :
    ∀ (parts : List (Nat × Operand)) (cs gs : List G) (vs : List Value), buildCells pl st cs parts = some gs → RepL C w cs vs → (∀ g ∈ cs, g.cell = true) →
      ∃ us, Instr.fill pl ⟨vs⟩ (parts.map fun (i, x) => (i, a.eval x)) = some ⟨us⟩ ∧ RepL C w gs us ∧ (∀ g ∈ gs, g.cell = true)
  | [], cs, gs, vs, h, hr, hc => by
    rw [buildCells] at h; cases h
    exact ⟨vs, rfl, hr, hc⟩
  | (i, x) :: parts, cs, gs, vs, h, hr, hc => by
    rw [buildCells] at h
    split at h
    · cases h
    · rename_i o n hf
      split at h
      · rename_i hb
        simp only [Bool.and_eq_true, beq_iff_eq] at hb
        obtain ⟨⟨b1, b2⟩, b3⟩ := hb
        rw [fL_eq] at h
        have b3 := Nat.le_of_ble_eq_true b3
        obtain ⟨r1, r2, r3⟩ := (hi.ev x).cells (okReg_cases b1)
        have hl := hr.1
        have key : ∀ (ws : List Value) (zs : List Value) (p : Nat), p + ws.length ≤ zs.length → ((Array.mk ws).zipIdx.foldl (fun cs (q : Value × Nat) => cs.setIfInBounds (p + q.2) q.1) (Array.mk zs)) = Array.mk (blit zs p ws) := by
          intro ws zs p hle
          rw [← Array.foldl_toList]
          simp only [Array.toList_zipIdx]
          have gen : ∀ (ws zs : List Value) (p j : Nat), p + j + ws.length ≤ zs.length → (ws.zipIdx j).foldl (fun cs (q : Value × Nat) => cs.setIfInBounds (p + q.2) q.1) (Array.mk zs) = Array.mk (blit zs (p + j) ws) := by
            intro ws
            induction ws with
            | nil => intro zs p j _; rw [blit_nil]; rfl
            | cons u ws ih =>
              intro zs p j hle
              simp only [List.length_cons] at hle
              rw [List.zipIdx_cons, List.foldl_cons, blit_cons]
              have e : (Array.mk zs).setIfInBounds (p + j) u = Array.mk (zs.set (p + j) u) := by
                apply Array.toList_inj.1; simp
              simp only [e]
              rw [ih _ p (j + 1) (by simp; omega)]; rfl
          simpa using gen ws zs p 0 (by omega)
        obtain ⟨us, h1, h2, h3⟩ := fill_sound pl hi parts (blit cs o (st.ev x).cells) gs (blit vs o (a.eval x).cells.toList) h
          ⟨by rw [blit_length, blit_length, hl], fun v hv => by
            obtain ⟨j, hj⟩ := List.mem_iff_getElem?.1 hv
            rw [blit_get _ _ _ _ (by omega)] at hj
            split at hj
            · exact r2 v (List.mem_of_getElem? hj)
            · exact hr.2.1 v (List.mem_of_getElem? hj), fun j g v hg hv => by
            rw [blit_get _ _ _ _ (by omega)] at hg hv
            rw [r1] at hv
            split at hg
            · rename_i hc; rw [if_pos hc] at hv; exact (r3 _ g v hg hv).2
            · rename_i hc; rw [if_neg hc] at hv; exact hr.2.2 _ g v hg hv⟩
          (fun g hg => by
            obtain ⟨j, hj⟩ := List.mem_iff_getElem?.1 hg
            rw [blit_get _ _ _ _ (by omega)] at hj
            split at hj
            · have hlt : j - o < (a.eval x).cells.toList.length := by rw [r1]; exact (List.getElem?_eq_some_iff.1 hj).1
              exact (r3 _ g _ hj (List.getElem?_eq_getElem hlt)).1
            · exact hc g (List.mem_of_getElem? hj))
        refine ⟨us, ?_, h2, h3⟩
        rw [List.map_cons, Instr.fill, hf]
        simp only
        rw [if_neg (by
          simp only [Bool.or_eq_true, decide_eq_true_eq, not_or]
          have e : (a.eval x).cells.size = (a.eval x).cells.toList.length := (Array.length_toList).symm
          refine ⟨by rw [e, r1, b2]; simp, ?_⟩
          rw [e, r1]; simp; omega)]
        have e2 : (a.eval x).cells = Array.mk (a.eval x).cells.toList := rfl
        rw [show ((a.eval x).cells.zipIdx.foldl (fun cs (x_1 : Value × Nat) => cs.setIfInBounds (o + x_1.2) x_1.1) (Array.mk vs)) = Array.mk (blit vs o (a.eval x).cells.toList) from key (a.eval x).cells.toList vs o (by rw [r1, b2, hl]; exact b3)]
        exact h1
      · cases h

theorem run_places : ∀ (fs : List Field), (∀ f ∈ fs, (P.info? f.type).isSome = true) → (fs.mapM (fun f => do pure (f.offset, ← sizeOf f.type) : Field → Sem (Nat × Nat))).run P w = .ok (fs.map fun f => (f.offset, P.cellsOf f.type)) w
  | [], _ => rfl
  | f :: fs, h => by
    obtain ⟨i, hi⟩ := Option.isSome_iff_exists.1 (h f (by simp))
    rw [List.mapM_cons, Sem.run_bind, Sem.run_bind, Go.run_sizeOf w hi]
    simp only [Result.andThen_ok, Sem.run_pure, Sem.run_bind, run_places fs (fun g hg => h g (by simp [hg])), List.map_cons]
theorem run_field {s : TypeId} {f : Nat} {fl : Field} (h : fieldOf P s f = some fl) : ∃ fs, P.underlying s = some (.struct fs) ∧ fs[f]? = some fl := by
  unfold fieldOf at h
  split at h
  · exact ⟨_, by assumption, h⟩
  · cases h
theorem run_fieldAt {s : TypeId} {f : Nat} {fl : Field} (h : fieldOf P s f = some fl) (hz : P.cellsOf fl.type ≠ 0) (hi : (P.info? fl.type).isSome = true) (B o : Nat) :
    (Instr.fieldAt s (.pointer (some ⟨B, o, none⟩)) f).run P w = .ok (.pointer (some ⟨B, o + fl.offset, none⟩)) w := by
  obtain ⟨fs, hu, hf⟩ := run_field h
  obtain ⟨i, hi⟩ := Option.isSome_iff_exists.1 hi
  unfold Instr.fieldAt
  simp only [Sem.run_bind, run_underlying hu, Result.andThen_ok, hf, Instr.sureAddr, Sem.run_pure, fieldPlace, Go.run_sizeOf w hi]
  rw [if_neg hz]
  simp only [Sem.run_pure, Result.andThen_ok, addr_add]

theorem boundP_run {x : Option Operand} {dflt : Nat} {kk : Nat → Int → Prop} (h : boundP (x.map st.ev) dflt kk) (hi : Inv C F st a w) : ∃ (n : Nat) (z : Int), kk n z ∧ ((x = none ∧ n = dflt ∧ z = dflt) ∨ ∃ X kd, x = some X ∧ a.eval X = .int kd z ∧ n = z.toNat) := by
  unfold boundP at h
  cases x with
  | none => exact ⟨_, _, h, .inl ⟨rfl, rfl, rfl⟩⟩
  | some X =>
    simp only [Option.map_some] at h
    have hr := hi.ev X
    cases hg : st.ev X with
    | int kd n => rw [hg] at h hr; exact ⟨_, _, h, .inr ⟨X, kd, rfl, hr.int_inv, rfl⟩⟩
    | _ => rw [hg] at h; exact h.elim
theorem run_bounds {lo hi' : Option Operand} {isS : Bool} {len cap l h : Nat} {lz hz : Int} (hh : (hi' = none ∧ h = len ∧ hz = len) ∨ ∃ X kd, hi' = some X ∧ a.eval X = .int kd hz ∧ h = hz.toNat)
    (hl : (lo = none ∧ l = 0 ∧ lz = 0) ∨ ∃ X kd, lo = some X ∧ a.eval X = .int kd lz ∧ l = lz.toNat) (h0 : 0 ≤ lz) (h1 : lz ≤ hz) (h2 : hz ≤ len) (hc : len ≤ cap) :
    (Instr.sliceBounds isS len cap (lo.map a.eval) (hi'.map a.eval) none).run P w = .ok (l, h, cap) w := by
  unfold Instr.sliceBounds
  rcases hh with ⟨rfl, rfl, rfl⟩ | ⟨X, kd, rfl, e1, rfl⟩ <;> rcases hl with ⟨rfl, rfl, rfl⟩ | ⟨Y, kd', rfl, e2, rfl⟩
  · simp
  · simp only [Option.map_some, Option.map_none, e2, Instr.sliceBound, asIntOf, Sem.run_bind, Sem.run_pure, Result.andThen_ok, pure_bind, Sem.run_ite]
    rw [if_pos (by constructor <;> omega)]
    simp
  · simp only [Option.map_some, Option.map_none, e1, Instr.sliceBound, asIntOf, Sem.run_bind, Sem.run_pure, Result.andThen_ok, pure_bind, Sem.run_ite]
    rw [if_pos (by constructor <;> omega)]
    simp
  · simp only [Option.map_some, Option.map_none, e1, e2, Instr.sliceBound, asIntOf, Sem.run_bind, Sem.run_pure, Result.andThen_ok, pure_bind, Sem.run_ite]
    rw [if_pos (by constructor <;> omega)]
    simp only [Result.andThen_ok, Sem.run_bind, Sem.run_pure, Sem.run_ite]
    rw [if_pos (by constructor <;> omega)]
    simp

theorem slice_sl {xs : List (List G)} {A : Option Addr} {n cap : Nat} (hr : Rep C w (.sl xs) (.slice A n cap)) {l h sz : Nat} (h1 : l ≤ h) (h2 : h ≤ xs.length) (hs : ∀ r ∈ xs, r.length = sz) :
    Rep C w (.sl ((xs.take h).drop l)) (.slice (if cap = l then A else A.map (·.add (l * sz))) (h - l) (cap - l)) := by
  cases hr with
  | slnil A cap hA =>
    obtain rfl : h = 0 := by simpa using h2
    obtain rfl : l = 0 := by omega
    exact .slnil _ _ (fun e => by
      have h0 : A = none := by
        cases A with
        | none => rfl
        | some a => split at e <;> cases e
      simpa using hA h0)
  | sl _ a _ sz' f ha hlt hex hcap hsz hcl hcell hrep =>
    have hlen : ((xs.take h).drop l).length = h - l := by simp; omega
    have hget : ∀ i, ((xs.take h).drop l)[i]? = if l + i < h then xs[l + i]? else none := fun i => by rw [List.getElem?_drop, List.getElem?_take]
    have hmem : ∀ r ∈ (xs.take h).drop l, r ∈ xs := fun r hr => List.mem_of_mem_take (List.mem_of_mem_drop hr)
    by_cases he : (xs.take h).drop l = []
    · rw [he] at hlen ⊢
      have e0 : h - l = 0 := by simpa using hlen.symm
      rw [e0]
      split
      · refine .sl [] a (cap - l) sz f ha hlt hex (by simp) (fun r hr => by cases hr) (fun r hr => by cases hr) (fun i r j g hi => by cases hi) (fun i r j g hi => by cases hi)
      · refine .sl [] (a.add (l * sz)) (cap - l) sz f ?_ ?_ ?_ (by simp) (fun r hr => by cases hr) (fun r hr => by cases hr) (fun i r j g hi => by cases hi) (fun i r j g hi => by cases hi)
        · unfold Addr.add; split; exact ha; rfl
        · unfold Addr.add; split; exact hlt; exact hlt
        · unfold Addr.add; split; exact hex; exact hex
    · have hpos : 0 < h - l := by
        rcases Nat.eq_zero_or_pos (h - l) with e | e
        · exact absurd (List.length_eq_zero_iff.1 (by rw [hlen, e])) he
        · exact e
      have hx0 : ∃ r, r ∈ xs := ⟨xs[l]'(by omega), List.getElem_mem _⟩
      obtain ⟨r0, hr0⟩ := hx0
      have ez : sz = sz' := (hs r0 hr0).symm.trans (hsz r0 hr0)
      subst ez
      rw [if_neg (by omega), ← hlen]
      have ea : a.add (l * sz) = ⟨a.block, a.off + l * sz, none⟩ := by
        obtain ⟨ab, ao, asp⟩ := a
        simp only at ha; subst ha
        exact addr_add _ _ _
      show Rep C w _ (.slice (some (a.add (l * sz))) _ _)
      rw [ea]
      refine .sl _ ⟨a.block, a.off + l * sz, none⟩ (cap - l) sz (fun i j => f (l + i) j) rfl hlt hex (by rw [hlen]; omega) (fun r hr => hs r (hmem r hr)) (fun r hr => hcl r (hmem r hr)) (fun i r j g hi hj => ?_) (fun i r j g hi hj => ?_)
      · rw [hget] at hi
        split at hi
        · have := hcell (l + i) r j g hi hj
          rw [show a.off + l * sz + i * sz + j = a.off + (l + i) * sz + j from by rw [Nat.add_mul]; omega]
          exact this
        · cases hi
      · rw [hget] at hi
        split at hi
        · exact hrep (l + i) r j g hi hj
        · cases hi
end
end Go.Proofs.YtijohhdgecadnaaDoor.Av
namespace Go.Proofs.YtijohhdgecadnaaDoor.Av
open Go Go.RowKit
set_option linter.unusedVariables false
set_option linter.unusedSimpArgs false

theorem part_rep {P : Program} {C : Cx} {w : World} {gs : List G} {vs : List Value} {dd : TypeDesc} {t : TypeId} {o : Nat} (hr : RepL C w gs vs) (hc : ∀ g ∈ gs, g.cell = true) (hle : o + wide P dd t ≤ gs.length) :
    Rep C w (rdC P dd t o gs) (bif aggD dd then .agg ⟨(vs.drop o).take (P.cellsOf t)⟩ else vs.getD o undef) := by
  unfold rdC
  unfold wide at hle
  cases ha : aggD dd with
  | true =>
    obtain ⟨p1, p2, p3⟩ := hr.part o (P.cellsOf t)
    exact .agg _ _ p1 (fun g hg => hc g (List.mem_of_mem_drop (List.mem_of_mem_take hg))) p2 p3
  | false =>
    rw [ha] at hle
    simp only [cond_false] at hle ⊢
    have e1 : gs[o]? = some (gs.getD o .junk) := by rw [List.getD_eq_getElem?_getD, List.getElem?_eq_getElem (by omega)]; rfl
    have e2 : vs[o]? = some (vs.getD o undef) := by rw [List.getD_eq_getElem?_getD, List.getElem?_eq_getElem (by rw [hr.1]; omega)]; rfl
    exact hr.2.2 _ _ _ e1 e2
theorem vop_sound {P : Program} {o : Oper} {d : Nat} {st : St} {k : G → St → Prop} {C : Cx} {F : Fd} {a : Act} {w : World} (h : vop P d o.op st k) (hi : Inv C F st a w) : Goes P o a w (After F k a) := by
  obtain ⟨dst, op, ty, pos, aft, gd⟩ := o
  simp only at h
  cases op with
  | move x => exact ⟨_, w, .inl (by simp [execOp]), after_same hi h (hi.ev x)⟩
  | assign x => exact ⟨_, w, .inl (by simp [execOp]), after_same hi h (hi.ev x)⟩
  | pick c x y =>
    simp only [vop] at h
    have hc := hi.ev c
    cases hg : st.ev c with
    | bool t =>
      rw [hg] at h hc
      have e := hc.bool_inv
      cases t with
      | true => exact ⟨_, w, .inl (by simp [execOp, e, asBool]), after_same hi h (hi.ev x)⟩
      | false => exact ⟨_, w, .inl (by simp [execOp, e, asBool]), after_same hi h (hi.ev y)⟩
    | _ => rw [hg] at h; exact h.elim
  | alloc t =>
    simp only [vop] at h
    split at h
    · rename_i cs hz
      cases hlt : Nat.blt d st.boxes.length && Nat.blt d st.slots.length with
      | false => rw [hlt] at h; exact h.elim
      | true =>
        rw [hlt] at h
        simp only [Bool.and_eq_true] at hlt
        have hsl := Nat.le_of_ble_eq_true hlt.2
        obtain ⟨z, h1, h2, _, h3, h4⟩ := zeroCells_sound hz w
        obtain ⟨C', hI, hb⟩ := hi.newBox d (Nat.le_of_ble_eq_true hlt.1) (by omega) t h2 h3 (fun i g v hg hv => h4 C w i g v hg hv)
        refine ⟨.pointer (some ⟨w.heap.size, 0, none⟩), w.alloc (.cells z.cells t), .inl ?_, C', _, _, h, hI, .ptr d 0 _ hb⟩
        simp [execOp, Instr.alloc, h1, newVar, newRow]
    · exact h.elim
  | box t x =>
    simp only [vop] at h
    cases hlt : (Nat.blt d st.boxes.length && Nat.blt d st.slots.length) && okReg (st.ev x) with
    | false => rw [hlt] at h; exact h.elim
    | true =>
      rw [hlt] at h
      simp only [Bool.and_eq_true] at hlt
      obtain ⟨r1, r2, r3⟩ := (hi.ev x).cells (okReg_cases hlt.2)
      obtain ⟨C', hI, hb⟩ := hi.newBox d (Nat.le_of_ble_eq_true hlt.1.1) (by have := Nat.le_of_ble_eq_true hlt.1.2; omega) t r1 r2 r3
      refine ⟨.pointer (some ⟨w.heap.size, 0, none⟩), w.alloc (.cells (a.eval x).cells t), .inl ?_, C', _, _, h, hI, .ptr d 0 _ hb⟩
      simp [execOp, Instr.box, newVar, newRow]
  | load t x =>
    simp only [vop] at h
    obtain ⟨g, v, h1, h2, h3⟩ := loadP_sound h hi (hi.ev x)
    exact ⟨v, w, .inl (by simp [execOp, h2]), after_same hi h1 h3⟩
  | store t x y =>
    simp only [vop] at h
    obtain ⟨st', w', h1, h2, h3⟩ := storeP_sound h hi (hi.ev x) (hi.ev y)
    exact ⟨undef, w', .inr ⟨by simp [execOp, h2], rfl⟩, C, _, _, h1, h3, .junk _⟩
  | binOp b t x y yt =>
    simp only [vop] at h
    obtain ⟨g, z, h1, h2, h3⟩ := binP_sound h (hi.ev x) (hi.ev y) x y
    refine ⟨z, w, .inl ?_, after_same hi h1 h3⟩
    simp only [execOp]
    rw [Sem.run_bind, h2]; rfl
  | unOp u t x =>
    simp only [vop] at h
    unfold unP at h
    have hx := hi.ev x
    split at h
    · rename_i k' n heq
      rw [heq] at hx
      exact ⟨_, w, .inl (by simp [execOp, hx.int_inv, Op.unary, Op.intArith]), after_same hi h (.int ..)⟩
    · rename_i b heq
      rw [heq] at hx
      exact ⟨_, w, .inl (by simp [execOp, hx.bool_inv, Op.unary]), after_same hi h (.bool ..)⟩
    · exact h.elim
  | build t parts =>
    simp only [vop] at h
    split at h
    · rename_i fs cs hu hz
      cases hall : fs.toList.all (fun f => (P.info? f.type).isSome) with
      | false => rw [hall] at h; exact h.elim
      | true =>
      rw [hall] at h
      simp only [cond_true] at h
      split at h
      · rename_i gs hb
        obtain ⟨z, h1, h2, h2b, h3, h4⟩ := zeroCells_sound hz w
        let places : Array (Nat × Nat) := fs.map fun f => (f.offset, P.cellsOf f.type)
        obtain ⟨us, h5, h6, h7⟩ := fill_sound (fieldPl P fs) hi parts.toList cs gs z.cells.toList hb ⟨h2, h3, fun i g v hg hv => (h4 C w i g v hg hv).2⟩
          (fun g hg => by
            obtain ⟨j, hj⟩ := List.mem_iff_getElem?.1 hg
            have hlt : j < z.cells.toList.length := by rw [h2]; exact (List.getElem?_eq_some_iff.1 hj).1
            exact (h4 C w j g _ hj (List.getElem?_eq_getElem hlt)).1)
        have hpl : (fs.mapM (fun f => do pure (f.offset, ← sizeOf f.type) : Field → Sem (Nat × Nat))).run P w = .ok places w := by
          rw [Array.mapM_eq_mapM_toList]
          simp only [Sem.run_map, run_places fs.toList (fun f hf => List.all_eq_true.1 hall f hf), Result.andThen_ok]
          congr 1
          apply Array.toList_inj.1; simp [places]
        refine ⟨.agg ⟨us⟩, w, .inl ?_, after_same hi h (.agg _ us h6.1 h7 h6.2.1 h6.2.2)⟩
        simp only [execOp, Instr.build]
        have e1 : parts.map (fun (q : Nat × Operand) => (q.1, a.eval q.2)) = (parts.toList.map (fun (q : Nat × Operand) => (q.1, a.eval q.2))).toArray := by apply Array.toList_inj.1; simp
        simp only [Sem.run_bind, h1, Result.andThen_ok, run_underlying hu, hpl]
        rw [e1]
        have epl : (fun x => places[x]?) = fieldPl P fs := by
          funext x
          simp only [places, fieldPl, Array.getElem?_map]
          cases fs[x]? <;> rfl
        have h5' : Instr.fill (fun x => places[x]?) z.cells (parts.toList.map fun (q : Nat × Operand) => (q.1, a.eval q.2)).toArray.toList = some ⟨us⟩ := by rw [epl]; simpa using h5
        rw [h5']
        rfl
      · exact h.elim
    · rename_i n e cs hu hz
      cases hall : (P.info? e).isSome with
      | false => rw [hall] at h; exact h.elim
      | true =>
      rw [hall] at h
      simp only [cond_true] at h
      obtain ⟨ii, hii⟩ := Option.isSome_iff_exists.1 hall
      split at h
      · rename_i gs hb
        obtain ⟨z, h1, h2, h2b, h3, h4⟩ := zeroCells_sound hz w
        obtain ⟨us, h5, h6, h7⟩ := fill_sound (fun i => some (i * P.cellsOf e, P.cellsOf e)) hi parts.toList cs gs z.cells.toList hb ⟨h2, h3, fun i g v hg hv => (h4 C w i g v hg hv).2⟩
          (fun g hg => by
            obtain ⟨j, hj⟩ := List.mem_iff_getElem?.1 hg
            have hlt : j < z.cells.toList.length := by rw [h2]; exact (List.getElem?_eq_some_iff.1 hj).1
            exact (h4 C w j g _ hj (List.getElem?_eq_getElem hlt)).1)
        refine ⟨.agg ⟨us⟩, w, .inl ?_, after_same hi h (.agg _ us h6.1 h7 h6.2.1 h6.2.2)⟩
        simp only [execOp, Instr.build]
        have e1 : parts.map (fun (q : Nat × Operand) => (q.1, a.eval q.2)) = (parts.toList.map (fun (q : Nat × Operand) => (q.1, a.eval q.2))).toArray := by apply Array.toList_inj.1; simp
        simp only [Sem.run_bind, h1, Result.andThen_ok, run_underlying hu, Go.run_sizeOf w hii]
        rw [e1]
        have h5' : Instr.fill (fun i => some (i * P.cellsOf e, P.cellsOf e)) z.cells (parts.toList.map fun (q : Nat × Operand) => (q.1, a.eval q.2)).toArray.toList = some ⟨us⟩ := by simpa using h5
        rw [h5']
        rfl
      · exact h.elim
    · exact h.elim
  | buildSlice t len parts =>
    simp only [vop] at h
    split at h
    · rename_i e hu
      split at h
      · rename_i zc hz
        cases hq : (P.cellsOf e == 0) || !(Nat.ble (len * P.cellsOf e) 16777216) with
        | true => rw [hq] at h; exact h.elim
        | false =>
          rw [hq] at h
          simp only [Bool.or_eq_false_iff, beq_eq_false_iff_ne, Bool.not_eq_false'] at hq
          have hle := Nat.le_of_ble_eq_true hq.2
          have hn : 0 < P.cellsOf e := Nat.pos_of_ne_zero hq.1
          simp only [cond_false] at h
          split at h
          · rename_i gs hb
            cases hcl : gs.all G.closed0 with
            | false => rw [hcl] at h; exact h.elim
            | true =>
              rw [hcl] at h
              simp only [cond_true, fLL_eq] at h
              simp only [List.all_eq_true] at hcl
              obtain ⟨z, h1, h2, h2b, h3, h4⟩ := zeroCells_sound hz w
              obtain ⟨ii, hii⟩ : ∃ ii, P.info? e = some ii := by
                unfold Program.cellsOf at hn
                cases hi0 : P.info? e with
                | none => rw [hi0] at hn; simp at hn
                | some i => exact ⟨i, rfl⟩
              have hzs : z.cells.size = P.cellsOf e := by rw [← Array.length_toList, h2, h2b]
              let vs : List Value := (List.range (len * P.cellsOf e)).map fun i => z.cells[i % z.cells.size]!
              have hvs : ∀ (i : Nat) v, vs[i]? = some v → i < len * P.cellsOf e ∧ z.cells.toList[i % P.cellsOf e]? = some v := fun i v hv => by
                have hlt : i < len * P.cellsOf e := by have := (List.getElem?_eq_some_iff.1 hv).1; simpa [vs] using this
                refine ⟨hlt, ?_⟩
                simp [vs, List.getElem?_map, List.getElem?_range hlt] at hv
                have hm : i % z.cells.size < z.cells.size := Nat.mod_lt _ (by omega)
                rw [getElem!_pos z.cells _ hm] at hv
                rw [← hzs, ← hv]
                simp [Array.getElem_toList]
              have hrl : RepL C w (repCells len (P.cellsOf e) zc) vs := by
                refine ⟨by simp [vs, repCells], fun v hv => ?_, fun i g v hg hv => ?_⟩
                · obtain ⟨i, hi0⟩ := List.mem_iff_getElem?.1 hv
                  exact h3 v (List.mem_of_getElem? (hvs i v hi0).2)
                · obtain ⟨hlt, hzv⟩ := hvs i v hv
                  simp only [repCells, List.getElem?_map, List.getElem?_range hlt, Option.map_some, Option.some.injEq] at hg
                  have hm : i % P.cellsOf e < zc.length := by rw [h2b]; exact Nat.mod_lt _ hn
                  rw [List.getD_eq_getElem?_getD, List.getElem?_eq_getElem hm] at hg
                  exact (h4 C w (i % P.cellsOf e) g v (by rw [List.getElem?_eq_getElem hm, ← hg]; rfl) hzv).2
              have hrc : ∀ g ∈ repCells len (P.cellsOf e) zc, g.cell = true := fun g hg => by
                simp only [repCells, List.mem_map, List.mem_range] at hg
                obtain ⟨i, _, rfl⟩ := hg
                have hm : i % P.cellsOf e < zc.length := by rw [h2b]; exact Nat.mod_lt _ hn
                have hm2 : i % P.cellsOf e < z.cells.toList.length := by rw [h2]; exact hm
                rw [List.getD_eq_getElem?_getD, List.getElem?_eq_getElem hm]
                exact (h4 C w _ _ _ (List.getElem?_eq_getElem hm) (List.getElem?_eq_getElem hm2)).1
              obtain ⟨us, h5, h6, h7⟩ := fill_sound (fun i => some (i * P.cellsOf e, P.cellsOf e)) hi parts.toList _ gs vs hb hrl hrc
              have hgl : gs.length = len * P.cellsOf e := by
                have fl : ∀ (ps : List (Nat × Operand)) (cs gs : List G), buildCells (fun i => some (i * P.cellsOf e, P.cellsOf e)) st cs ps = some gs → gs.length = cs.length := by
                  intro ps
                  induction ps with
                  | nil => intro cs gs hg; rw [buildCells] at hg; cases hg; rfl
                  | cons p ps ih =>
                    intro cs gs hg
                    obtain ⟨i, x⟩ := p
                    rw [buildCells] at hg
                    split at hg
                    · cases hg
                    · split at hg
                      · rw [fL_eq] at hg; rw [ih _ _ hg, blit_length]
                      · cases hg
                rw [fl _ _ _ hb]; simp [repCells]
              have hul : us.length = len * P.cellsOf e := by rw [h6.1, hgl]
              have hnew : (w.alloc (.cells ⟨us⟩ e)).heap[w.heap.size]? = some (.cells ⟨us⟩ e (0, 0)) := heap_alloc_new w _
              have hrow : ∀ (i : Nat) r, (chunk len (P.cellsOf e) gs)[i]? = some r → i < len ∧ r = (gs.drop (i * P.cellsOf e)).take (P.cellsOf e) := fun i r hr => by
                have hlt : i < len := by have := (List.getElem?_eq_some_iff.1 hr).1; simpa [chunk] using this
                simp [chunk, List.getElem?_map, List.getElem?_range hlt] at hr
                exact ⟨hlt, hr.symm⟩
              have hrg : ∀ (i : Nat) r (j : Nat) g, (chunk len (P.cellsOf e) gs)[i]? = some r → r[j]? = some g → gs[i * P.cellsOf e + j]? = some g ∧ i * P.cellsOf e + j < us.length := fun i r j g hr hj => by
                obtain ⟨hlt, rfl⟩ := hrow i r hr
                rw [List.getElem?_take] at hj
                split at hj
                · rename_i hjn
                  rw [List.getElem?_drop] at hj
                  refine ⟨hj, ?_⟩
                  have : (i + 1) * P.cellsOf e ≤ len * P.cellsOf e := Nat.mul_le_mul_right _ hlt
                  rw [Nat.succ_mul] at this; omega
                · cases hj
              have hrepd : Rep C (w.alloc (.cells ⟨us⟩ e)) (.sl (chunk len (P.cellsOf e) gs)) (.slice (some ⟨w.heap.size, 0, none⟩) (chunk len (P.cellsOf e) gs).length len) := by
                refine .sl _ ⟨w.heap.size, 0, none⟩ len (P.cellsOf e) (fun i j => us.getD (i * P.cellsOf e + j) undef) rfl (by simp) (fun hx => by have := hi.mem.lt _ hx; simp at this) (by simp [chunk]) (fun r hr => ?_) (fun r hr g hg => ?_) (fun i r j g hr hj => ?_) (fun i r j g hr hj => ?_)
                · obtain ⟨i, hi0⟩ := List.mem_iff_getElem?.1 hr
                  obtain ⟨hlt, rfl⟩ := hrow i r hi0
                  have : (i + 1) * P.cellsOf e ≤ len * P.cellsOf e := Nat.mul_le_mul_right _ hlt
                  rw [Nat.succ_mul] at this
                  simp [hgl]; omega
                · obtain ⟨i, hi0⟩ := List.mem_iff_getElem?.1 hr
                  obtain ⟨j, hj0⟩ := List.mem_iff_getElem?.1 hg
                  exact hcl g (List.mem_of_getElem? (hrg i r j g hi0 hj0).1)
                · obtain ⟨_, hlt⟩ := hrg i r j g hr hj
                  rw [show (⟨(⟨w.heap.size, 0, none⟩ : Addr).block, (⟨w.heap.size, 0, none⟩ : Addr).off + i * P.cellsOf e + j, none⟩ : Addr) = ⟨w.heap.size, i * P.cellsOf e + j, none⟩ from by simp, cell_of_block hnew,
                    List.getD_eq_getElem?_getD, List.getElem?_eq_getElem hlt]; rfl
                · obtain ⟨hg, hlt⟩ := hrg i r j g hr hj
                  have hv : us[i * P.cellsOf e + j]? = some (us.getD (i * P.cellsOf e + j) undef) := by rw [List.getD_eq_getElem?_getD, List.getElem?_eq_getElem hlt]; rfl
                  exact (h6.2.2 _ g _ hg hv).keep0 (hcl g (List.mem_of_getElem? hg)) (keeps_alloc _ w _) (fun _ _ h => h)
              have hcl2 : (chunk len (P.cellsOf e) gs).length = len := by simp [chunk]
              rw [hcl2] at hrepd
              refine ⟨.slice (some ⟨w.heap.size, 0, none⟩) len len, w.alloc (.cells ⟨us⟩ e), .inl ?_, C, _, _, h, hi.lt_alloc _, hrepd⟩
              simp only [execOp, Instr.buildSlice]
              have e1 : parts.map (fun (q : Nat × Operand) => (q.1, a.eval q.2)) = (parts.toList.map (fun (q : Nat × Operand) => (q.1, a.eval q.2))).toArray := by apply Array.toList_inj.1; simp
              simp only [Sem.run_bind, run_underlying hu, Result.andThen_ok, Go.run_sizeOf w hii, Sem.run_ite]
              rw [if_neg (by omega), e1]
              have h5' : Instr.fill (fun i => some (i * P.cellsOf e, P.cellsOf e)) ⟨vs⟩ (parts.toList.map fun (q : Nat × Operand) => (q.1, a.eval q.2)) = some ⟨us⟩ := h5
              have hvsz : ((Array.range (len * P.cellsOf e)).map (fun i => z.cells[i % z.cells.size]!)) = ⟨vs⟩ := by
                apply Array.toList_inj.1; simp [vs]
              by_cases h0 : len * P.cellsOf e = 0
              · rw [if_pos h0]
                have e2 : (Array.range (len * P.cellsOf e)).map (fun x => (#[] : Array Value)[x % (#[] : Array Value).size]!) = ⟨vs⟩ := by
                  apply Array.toList_inj.1; simp [vs, h0]
                simp only [Sem.run_pure, Result.andThen_ok]
                rw [e2, h5']
                rfl
              · rw [if_neg h0]
                simp only [Sem.run_bind, h1, Result.andThen_ok, Sem.run_pure]
                rw [hvsz, h5']
                rfl
          · exact h.elim
      · exact h.elim
    · exact h.elim
  | fieldAddr s x f =>
    simp only [vop] at h
    split at h
    · rename_i fl hf
      cases hz : (P.cellsOf fl.type == 0) || (P.info? fl.type).isNone with
      | true => rw [hz] at h; exact h.elim
      | false =>
        rw [hz] at h
        simp only [Bool.or_eq_false_iff, beq_eq_false_iff_ne] at hz
        have hz2 : (P.info? fl.type).isSome = true := by
          have := hz.2
          cases hq : P.info? fl.type <;> simp_all
        have hx := hi.ev x
        simp only [cond_false] at h
        split at h
        · rename_i b off heq
          rw [heq] at hx
          generalize hv : a.eval x = v at hx
          cases hx with
          | ptr _ _ B hb => exact ⟨_, w, .inl (by simp only [execOp]; rw [Sem.run_bind, hv, run_fieldAt hf hz.1 hz2]; rfl), after_same hi h (.ptr _ _ B hb)⟩
        · rename_i b T n heq
          rw [heq] at hx
          generalize hv : a.eval x = v at hx
          cases hx with
          | ptrt _ _ _ B vs fz hb ht hn => exact ⟨_, w, .inl (by simp only [execOp]; rw [Sem.run_bind, hv, run_fieldAt hf hz.1 hz2]; rfl), after_same hi h (.ptr _ _ B hb)⟩
        · rename_i row off heq
          rw [heq] at hx
          generalize hv : a.eval x = v at hx
          cases hx with
          | elt _ _ B oo f' hlt hex hcl hcell hr =>
            refine ⟨_, w, .inl (by simp only [execOp]; rw [Sem.run_bind, hv, run_fieldAt hf hz.1 hz2]; rfl), after_same hi h ?_⟩
            rw [Nat.add_assoc]; exact .elt row _ B oo f' hlt hex hcl hcell hr
        · rename_i kk i off heq
          rw [heq] at hx
          generalize hv : a.eval x = v at hx
          cases hx with
          | eltw _ _ _ B s' sz n hk hn0 =>
            refine ⟨_, w, .inl (by simp only [execOp]; rw [Sem.run_bind, hv, run_fieldAt hf hz.1 hz2]; rfl), after_same hi h ?_⟩
            rw [Nat.add_assoc]; exact .eltw kk i _ B s' sz n hk hn0
        · exact h.elim
    · exact h.elim
  | field t x f =>
    simp only [vop] at h
    split at h
    · rename_i fl gs hf heq
      split at h
      · rename_i dd hd
        cases hle : Nat.ble (fl.offset + wide P dd fl.type) gs.length with
        | false => rw [hle] at h; exact h.elim
        | true =>
          rw [hle] at h
          have hx := hi.ev x
          rw [heq] at hx
          obtain ⟨vs, hv, hr, hc⟩ := hx.agg_inv
          obtain ⟨fs, hu, hf'⟩ := run_field hf
          have hle := Nat.le_of_ble_eq_true hle
          refine ⟨(bif aggD dd then .agg ⟨(vs.drop fl.offset).take (P.cellsOf fl.type)⟩ else vs.getD fl.offset undef), w, .inl ?_, after_same hi h ?_⟩
          · simp only [execOp, Instr.field]
            simp only [Sem.run_bind, run_underlying hu, Result.andThen_ok, hf', hv, asAgg, Sem.run_pure, run_part_of hd (show fl.offset + wide P dd fl.type ≤ vs.length by rw [hr.1]; exact hle)]
          · unfold rdC
            unfold wide at hle
            cases ha : aggD dd with
            | true =>
              obtain ⟨p1, p2, p3⟩ := hr.part fl.offset (P.cellsOf fl.type)
              exact .agg _ _ p1 (fun g hg => hc g (List.mem_of_mem_drop (List.mem_of_mem_take hg))) p2 p3
            | false =>
              rw [ha] at hle
              simp only [cond_false] at hle ⊢
              have e1 : gs[fl.offset]? = some (gs.getD fl.offset .junk) := by rw [List.getD_eq_getElem?_getD, List.getElem?_eq_getElem (by omega)]; rfl
              have e2 : vs[fl.offset]? = some (vs.getD fl.offset undef) := by rw [List.getD_eq_getElem?_getD, List.getElem?_eq_getElem (by rw [hr.1]; omega)]; rfl
              exact hr.2.2 _ _ _ e1 e2
      · exact h.elim
    · exact h.elim
  | indexAddr t x ix =>
    simp only [vop] at h
    have hx := hi.ev x
    have hn := hi.ev ix
    split at h
    · rename_i e xs kd n hu heq heq2
      rw [heq] at hx; rw [heq2] at hn
      obtain ⟨row, ⟨h0, hrow⟩, h⟩ := h
      cases hc : (row.length == P.cellsOf e) && (P.info? e).isSome with
      | false => rw [hc] at h; exact h.elim
      | true =>
        rw [hc] at h
        simp only [Bool.and_eq_true, beq_iff_eq] at hc
        obtain ⟨ii, hii⟩ := Option.isSome_iff_exists.1 hc.2
        generalize hv : a.eval x = v at hx
        cases hx with
        | slnil => simp at hrow
        | sl _ A cap sz f ha hlt hex hcap hsz hcl hcell hr =>
          have hlt' : n.toNat < xs.length := (List.getElem?_eq_some_iff.1 hrow).1
          have hsz' : sz = P.cellsOf e := by rw [← hsz row (List.mem_of_getElem? hrow)]; exact hc.1
          refine ⟨.pointer (some ⟨A.block, A.off + n.toNat * sz, none⟩), w, .inl ?_, after_same hi h (.elt row 0 A.block (A.off + n.toNat * sz) (f n.toNat) hlt hex (hcl row (List.mem_of_getElem? hrow)) (fun j g hg => ?_) (fun j g hg => hr n.toNat row j g hrow hg))⟩
          · simp only [execOp, Instr.indexAt]
            simp only [hv, hn.int_inv, asIntOf, Sem.run_bind, Sem.run_pure, Result.andThen_ok, run_underlying hu, pure_bind]
            rw [if_pos (show 0 ≤ n ∧ n < (xs.length : Int) from ⟨h0, by omega⟩)]
            simp only [Sem.run_bind, Go.run_sizeOf w hii, Result.andThen_ok, Sem.run_pure]
            obtain ⟨ab, ao, asp⟩ := A
            simp only at ha; subst ha
            rw [← hsz', addr_add]
          · exact hcell n.toNat row j g hrow hg
    · rename_i e kk off len kd n hu heq heq2
      rw [heq] at hx; rw [heq2] at hn
      split at h
      · rename_i xs hxs
        obtain ⟨row, ⟨h0, h1, hrow⟩, h⟩ := h
        cases hc : (row.length == P.cellsOf e) && (P.info? e).isSome with
        | false => rw [hc] at h; exact h.elim
        | true =>
          rw [hc] at h
          simp only [Bool.and_eq_true, beq_iff_eq] at hc
          obtain ⟨ii, hii⟩ := Option.isSome_iff_exists.1 hc.2
          generalize hv : a.eval x = v at hx
          cases hx with
          | ownnil _ _ hr => simp at h1; omega
          | own _ _ _ B s sz nn A hr ho ha hn0 =>
            rcases hi.mem.row kk xs (rowsOf hxs) with k1 | ⟨B', s', sz', n', vs, T, fz, k1, k2, k3, k4, k5, k6, k6b, k7, k8⟩ | km
            rotate_left 2
            · exact (km.np hr hn0).elim
            · rw [hr] at k1; cases k1.1
            · rw [hr] at k1; cases k1
              have hsz' : sz = P.cellsOf e := by rw [← (k7 row (List.mem_of_getElem? hrow)).1]; exact hc.1
              have hlt : off + n.toNat < xs.length := (List.getElem?_eq_some_iff.1 hrow).1
              obtain rfl := ha.1 (by omega)
              refine ⟨.pointer (some ⟨B, s + (off + n.toNat) * sz + 0, none⟩), w, .inl ?_, after_same hi h (.eltw kk _ 0 B s sz nn hr hn0)⟩
              simp only [execOp, Instr.indexAt]
              simp only [hv, hn.int_inv, asIntOf, Sem.run_bind, Sem.run_pure, Result.andThen_ok, run_underlying hu, pure_bind]
              rw [if_pos (show 0 ≤ n ∧ n < (len : Int) from ⟨h0, h1⟩)]
              simp only [Sem.run_bind, Go.run_sizeOf w hii, Result.andThen_ok, Sem.run_pure]
              rw [← hsz', addr_add]
              congr 5
              rw [Nat.add_mul]; omega
      · exact h.elim
    · rename_i len e b off kd n hu heq heq2
      rw [heq] at hx; rw [heq2] at hn
      obtain ⟨⟨h0, h1⟩, h⟩ := h
      cases hc : (P.info? e).isSome with
      | false => rw [hc] at h; exact h.elim
      | true =>
        rw [hc] at h
        obtain ⟨ii, hii⟩ := Option.isSome_iff_exists.1 hc
        generalize hv : a.eval x = v at hx
        cases hx with
        | ptr _ _ B hb =>
          refine ⟨.pointer (some ⟨B, off + n.toNat * P.cellsOf e, none⟩), w, .inl ?_, after_same hi h (.ptr _ _ B hb)⟩
          simp only [execOp, Instr.indexAt]
          simp only [hv, hn.int_inv, asIntOf, Instr.sureAddr, Sem.run_bind, Sem.run_pure, Result.andThen_ok, run_underlying hu, pure_bind]
          rw [if_pos (show 0 ≤ n ∧ n < (len : Int) from ⟨h0, h1⟩)]
          simp only [Sem.run_bind, Go.run_sizeOf w hii, Result.andThen_ok, Sem.run_pure]
          rw [addr_add]
    · exact h.elim
  | index t x ix =>
    simp only [vop] at h
    have hx := hi.ev x
    have hn := hi.ev ix
    split at h
    · rename_i s kd n hu heq heq2
      rw [heq] at hx; rw [heq2] at hn
      obtain ⟨⟨h0, h1⟩, h⟩ := h
      refine ⟨.int .u8 (byteAt s n.toNat), w, .inl ?_, after_same hi h (.int ..)⟩
      simp only [execOp, Instr.index]
      have hlt : n.toNat < s.size := by omega
      have e : s[n.toNat]? = some s[n.toNat] := getElem?_pos s n.toNat hlt
      simp only [hx.str_inv, hn.int_inv, asIntOf, Sem.run_bind, Sem.run_pure, Result.andThen_ok, run_underlying hu, pure_bind]
      rw [if_pos h0, e]
      simp only [Sem.run_pure, Result.andThen_ok]
      have : s[n.toNat] = s.data.toList.getD n.toNat 0 := by
        rw [List.getD_eq_getElem?_getD, List.getElem?_eq_getElem (by simpa using hlt)]; rfl
      rw [this]; rfl
    · rename_i len e gs kd n hu heq heq2
      rw [heq] at hx; rw [heq2] at hn
      split at h
      · rename_i dd hd
        cases hle : (gs.length == len * P.cellsOf e) && (wide P dd e == P.cellsOf e) with
        | false => rw [hle] at h; exact h.elim
        | true =>
          rw [hle] at h
          obtain ⟨⟨h0, h1⟩, h⟩ := h
          simp only [Bool.and_eq_true, beq_iff_eq] at hle
          obtain ⟨vs, hv, hr, hc⟩ := hx.agg_inv
          obtain ⟨ii, hii⟩ := info_of_underlying hd
          have hlt : n.toNat < len := by omega
          have hw : n.toNat * P.cellsOf e + wide P dd e ≤ gs.length := by
            rw [hle.1, hle.2]
            have : (n.toNat + 1) * P.cellsOf e ≤ len * P.cellsOf e := Nat.mul_le_mul_right _ hlt
            rw [Nat.succ_mul] at this; exact this
          refine ⟨(bif aggD dd then .agg ⟨(vs.drop (n.toNat * P.cellsOf e)).take (P.cellsOf e)⟩ else vs.getD (n.toNat * P.cellsOf e) undef), w, .inl ?_, after_same hi h ?_⟩
          · simp only [execOp, Instr.index]
            simp only [hv, hn.int_inv, asIntOf, Sem.run_bind, Sem.run_pure, Result.andThen_ok, run_underlying hu, pure_bind]
            rw [if_pos (show 0 ≤ n ∧ n < (len : Int) from ⟨h0, h1⟩)]
            simp only [Sem.run_bind, Go.run_sizeOf w hii, Result.andThen_ok]
            rw [run_part_of hd (by rw [hr.1]; exact hw)]
            rfl
          · exact part_rep hr hc hw
      · exact h.elim
    · exact h.elim
  | extract x i =>
    simp only [vop] at h
    have hx := hi.ev x
    split at h
    · rename_i gs heq
      rw [heq] at hx
      split at h
      · rename_i g hg
        generalize hv : a.eval x = v at hx
        cases hx with
        | tup _ vs hl hr =>
          have hlt : i < vs.length := by rw [hl]; exact (List.getElem?_eq_some_iff.1 hg).1
          have hvi : vs[i]? = some vs[i] := List.getElem?_eq_getElem hlt
          refine ⟨vs[i], w, .inl ?_, after_same hi h (hr i g _ hg hvi)⟩
          simp [execOp, Instr.extract, hv, hvi]
      · exact h.elim
    · exact h.elim
  | nilCheck x =>
    simp only [vop] at h
    have hx := hi.ev x
    split at h
    · rename_i heq; rw [heq] at hx
      generalize hv : a.eval x = v at hx
      cases hx with
      | ptr b off B hb => exact ⟨_, w, .inl (by simp [execOp, hv]), after_same hi h (.ptr _ _ B hb)⟩
    · rename_i heq; rw [heq] at hx
      generalize hv : a.eval x = v at hx
      cases hx with
      | elt row off B oo f hlt hex hcl hcell hr => exact ⟨_, w, .inl (by simp [execOp, hv]), after_same hi h (.elt _ _ B oo f hlt hex hcl hcell hr)⟩
    · rename_i heq; rw [heq] at hx
      generalize hv : a.eval x = v at hx
      cases hx with
      | eltw kk i off B s sz n hk hn0 => exact ⟨_, w, .inl (by simp [execOp, hv]), after_same hi h (.eltw _ _ _ B s sz n hk hn0)⟩
    · rename_i heq; rw [heq] at hx
      generalize hv : a.eval x = v at hx
      cases hx with
      | fn f caps vs hl hr => exact ⟨_, w, .inl (by simp [execOp, hv]), after_same hi h (.fn _ _ vs hl hr)⟩
    · rename_i heq; rw [heq] at hx
      generalize hv : a.eval x = v at hx
      cases hx with
      | ptrt _ _ _ B vs fz hb ht hn => exact ⟨_, w, .inl (by simp [execOp, hv]), after_same hi h (.ptrt _ _ _ B vs fz hb ht hn)⟩
    · exact h.elim
  | convert src dst' x =>
    simp only [vop] at h
    have hx := hi.ev x
    split at h
    · rename_i d1 kd kk n h1 h2 heq
      rw [heq] at hx
      refine ⟨.int kd (kd.wrap n), w, .inl ?_, after_same hi h (.int ..)⟩
      simp only [execOp]
      rw [Sem.run_bind]
      have : (convert src dst' (a.eval x)).run P w = .ok (.int kd (kd.wrap n)) w := by
        unfold convert
        simp only [Sem.run_bind, run_underlying h1, run_underlying h2, Result.andThen_ok, hx.int_inv, Conv.intToInt, Sem.run_pure]
      rw [this]; rfl
    · rename_i s h1 h2 heq
      rw [heq] at hx
      refine ⟨.string s, w, .inl ?_, after_same hi h (.str ..)⟩
      simp only [execOp]
      rw [Sem.run_bind]
      have : (convert src dst' (a.eval x)).run P w = .ok (.string s) w := by
        unfold convert
        simp only [Sem.run_bind, run_underlying h1, run_underlying h2, Result.andThen_ok, hx.str_inv, Sem.run_pure]
      rw [this]; rfl
    · exact h.elim
  | slice t x lo hi' mx =>
    cases mx with
    | some _ => simp [vop] at h
    | none =>
      simp only [vop] at h
      have hx := hi.ev x
      split at h
      · rename_i s hu heq
        rw [heq] at hx
        obtain ⟨hh, hz, h, e1⟩ := boundP_run h hi
        obtain ⟨l, lz, ⟨⟨b1, b2, b3⟩, h⟩, e2⟩ := boundP_run h hi
        refine ⟨.string (s.extract l hh), w, .inl ?_, after_same hi h (.str ..)⟩
        simp only [execOp, Instr.sliceAt, Instr.slice]
        simp only [Sem.run_bind, run_underlying hu, Result.andThen_ok, hx.str_inv, Option.map_none, Option.isSome_none, Bool.false_eq_true, if_false, pure_bind, Sem.run_pure]
        rw [run_bounds (P := P) (a := a) (cap := s.size) e1 e2 b1 b2 b3 (Nat.le_refl _)]
        simp only [Result.andThen_ok, Sem.run_pure]
      · rename_i e xs hu heq
        rw [heq] at hx
        cases hin : (P.info? e).isNone with
        | true => rw [hin] at h; exact h.elim
        | false =>
        rw [hin] at h
        simp only [cond_false] at h
        obtain ⟨ii, hii⟩ : ∃ ii, P.info? e = some ii := by cases hq : P.info? e <;> simp_all
        obtain ⟨hh, hz, h, e1⟩ := boundP_run h hi
        obtain ⟨l, lz, ⟨⟨b1, b2, b3, b4⟩, h⟩, e2⟩ := boundP_run h hi
        have hlh : l ≤ hh ∧ hh ≤ xs.length := by
          rcases e1 with ⟨_, q1, q2⟩ | ⟨_, _, _, _, q1⟩ <;> rcases e2 with ⟨_, q3, q4⟩ | ⟨_, _, _, _, q3⟩ <;> omega
        have hsh : ∃ A cap, a.eval x = .slice A xs.length cap ∧ xs.length ≤ cap := by
          generalize a.eval x = v at hx
          cases hx with
          | slnil _ _ _ => exact ⟨_, _, rfl, Nat.zero_le _⟩
          | sl _ A cap _ _ _ _ _ hcap => exact ⟨some A, cap, rfl, hcap⟩
        obtain ⟨A, cap, hv, hcap⟩ := hsh
        rw [hv] at hx
        refine ⟨_, w, .inl ?_, after_same hi h (slice_sl hx hlh.1 hlh.2 b4)⟩
        simp only [execOp, Instr.sliceAt, Instr.slice]
        simp only [Sem.run_bind, run_underlying hu, Result.andThen_ok, hv, Option.map_none, pure_bind, Sem.run_pure]
        rw [run_bounds (P := P) (a := a) (cap := cap) e1 e2 b1 b2 b3 hcap]
        simp only [Result.andThen_ok, Go.run_sizeOf w hii, Sem.run_pure, Sem.run_bind]
      · exact h.elim
  | makeFunc fn first caps =>
    cases fn with
    | func f =>
      simp only [vop] at h
      cases hc : first.isEmpty && caps.toList.all (fun x => okReg (st.ev x)) with
      | false =>
        rw [hc] at h
        cases hc2 : caps.isEmpty && first.toList.all (fun x => okReg (st.ev x)) with
        | false => rw [hc2] at h; exact h.elim
        | true =>
          rw [hc2] at h
          simp only [Bool.and_eq_true, List.all_eq_true, Array.isEmpty_iff] at hc2
          refine ⟨.func (.func f) ⟨first.toList.map a.eval⟩ #[], w, .inl ?_, after_same hi h (.meth f _ _ (by simp) (fun i g v hg hv => ?_))⟩
          · have e1 : first.map a.eval = ⟨first.toList.map a.eval⟩ := by apply Array.toList_inj.1; simp
            simp only [execOp, Instr.makeFunc, hc2.1, e1, Sem.run_bind, Sem.run_pure, Result.andThen_ok]
            simp
          · rw [List.getElem?_map] at hg hv
            obtain ⟨x, hx, rfl⟩ := Option.map_eq_some_iff.1 hg
            rw [hx] at hv
            obtain rfl := Option.some.inj hv
            exact hi.ev x
      | true =>
        rw [hc] at h
        simp only [Bool.and_eq_true, List.all_eq_true, Array.isEmpty_iff] at hc
        refine ⟨.func (.func f) #[] ⟨caps.toList.map a.eval⟩, w, .inl ?_, after_same hi h (.fn f _ _ (by simp) (fun i g v hg hv => ?_))⟩
        · have e1 : caps.map a.eval = ⟨caps.toList.map a.eval⟩ := by apply Array.toList_inj.1; simp
          simp only [execOp, Instr.makeFunc, hc.1, e1, Sem.run_bind, Sem.run_pure, Result.andThen_ok]
          simp
        · rw [List.getElem?_map] at hg hv
          obtain ⟨x, hx, rfl⟩ := Option.map_eq_some_iff.1 hg
          rw [hx] at hv
          obtain rfl := Option.some.inj hv
          exact hi.ev x
    | _ => simp [vop] at h
  | makeInterface t x =>
    simp only [vop] at h
    have hx := hi.ev x
    split at h
    · rename_i kd kk n hu heq
      rw [heq] at hx
      refine ⟨_, w, .inl ?_, after_same hi h (.lit _ rfl)⟩
      simp only [execOp, Instr.makeInterface, Sem.run_bind, run_underlying hu, Result.andThen_ok, Sem.run_pure, hx.int_inv]
    · rename_i s hu heq
      rw [heq] at hx
      refine ⟨_, w, .inl ?_, after_same hi h (.lit _ rfl)⟩
      simp only [execOp, Instr.makeInterface, Sem.run_bind, run_underlying hu, Result.andThen_ok, Sem.run_pure, hx.str_inv]
    · exact h.elim
  | call c =>
    obtain ⟨callee, args, argTypes⟩ := c
    cases callee with
    | builtin b =>
      simp only [vop] at h
      have hargs : ∀ (i : Nat) g v, (args.toList.map st.ev)[i]? = some g → (args.toList.map a.eval)[i]? = some v → Rep C w g v := fun i g v hg hv => by
        rw [List.getElem?_map] at hg hv
        obtain ⟨x, hx, rfl⟩ := Option.map_eq_some_iff.1 hg
        rw [hx] at hv
        obtain rfl := Option.some.inj hv
        exact hi.ev x
      have hargs2 : (args.map a.eval) = ⟨args.toList.map a.eval⟩ := by apply Array.toList_inj.1; simp
      have hlen : (args.toList.map a.eval).length = (args.toList.map st.ev).length := by simp
      split at h
      · rename_i x heq
        obtain ⟨X, hX, rfl⟩ : ∃ X, args.toList = [X] ∧ st.ev X = x := by
          match hq : args.toList, heq with
          | [X], heq => exact ⟨X, rfl, by simpa using heq⟩
        split at h
        · rename_i t ht
          split at h
          · rename_i dd hu
            split at h
            · rename_i n hn
              cases hs : isStrOrSl dd (st.ev X) with
            | false => rw [hs] at h; exact h.elim
            | true =>
              rw [hs] at h
              have hx := hi.ev X
              refine ⟨.int .i64 n, w, .inl ?_, after_same hi h (.int ..)⟩
              have e0 : (args.map a.eval)[0]? = some (a.eval X) := by rw [hargs2, hX]; rfl
              have e1 : argTypes[0]? = some t := ht
              simp only [execOp, resolve, Sem.run_bind, Sem.run_pure, Result.andThen_ok, invoke, builtin, Builtin.len_, e0, e1, run_underlying hu]
              generalize hg : st.ev X = g at *
              generalize a.eval X = v at *
              cases g <;> cases dd <;> first | (simp [isStrOrSl] at hs; done) | skip
              · rw [hx.str_inv]; simp [lenG] at hn; subst hn; rfl
              · obtain ⟨vs, rfl, _, _⟩ := hx.agg_inv
                simp [lenG] at hn; subst hn; rfl
              · cases hx <;> (simp [lenG] at hn; subst hn; rfl)
              · cases hx; simp [lenG] at hn; subst hn; rfl
              · cases hx; simp [lenG] at hn; subst hn; rfl
              · cases hx; simp [lenG] at hn; subst hn; rfl
              · cases hx <;> (simp [lenG] at hn; subst hn; rfl)
              · cases hx; simp [lenG] at hn; subst hn; rfl
              · cases hx <;> (simp [lenG] at hn; subst hn; rfl)
              · cases hx; simp [lenG] at hn; subst hn; rfl
            · exact h.elim
          · exact h.elim
        · exact h.elim
      · rename_i x xs heq
        split at h
        · rename_i g hg
          match hq : args.toList.map a.eval with
          | [] => rw [hq, heq] at hlen; simp at hlen
          | v :: vs =>
            rw [hq, heq] at hargs hlen
            obtain ⟨z, h1, h2⟩ := foldG_sound (P := P) (fun x y g u v => min2_ok x y g u v) xs x g v vs hg (hargs 0 x v rfl rfl) (by simpa using hlen) (fun i g v hg hv => hargs (i + 1) g v (by simpa using hg) (by simpa using hv))
            refine ⟨z, w, .inl ?_, after_same hi h h2⟩
            simp only [execOp, resolve, Sem.run_bind, Sem.run_pure, Result.andThen_ok, invoke, builtin, Builtin.min_, hargs2, hq, h1]
        · exact h.elim
      · rename_i x xs heq
        split at h
        · rename_i g hg
          match hq : args.toList.map a.eval with
          | [] => rw [hq, heq] at hlen; simp at hlen
          | v :: vs =>
            rw [hq, heq] at hargs hlen
            obtain ⟨z, h1, h2⟩ := foldG_sound (P := P) (fun x y g u v => max2_ok x y g u v) xs x g v vs hg (hargs 0 x v rfl rfl) (by simpa using hlen) (fun i g v hg hv => hargs (i + 1) g v (by simpa using hg) (by simpa using hv))
            refine ⟨z, w, .inl ?_, after_same hi h h2⟩
            simp only [execOp, resolve, Sem.run_bind, Sem.run_pure, Result.andThen_ok, invoke, builtin, Builtin.max_, hargs2, hq, h1]
        · exact h.elim
      · exact h.elim
    | _ => simp [vop] at h
  | _ => simp [vop] at h
end Go.Proofs.YtijohhdgecadnaaDoor.Av
