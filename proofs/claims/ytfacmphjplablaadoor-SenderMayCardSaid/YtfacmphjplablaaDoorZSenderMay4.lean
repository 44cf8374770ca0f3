/- One text out of several: Sp2, Sp6, Cn75, Sp18, Sp11, Sp19, Sp20, Cn76, Cn77, Cn1, Cn40u, Cn41, Cn42, Cn78, Cn80, Cn82, Cn83, Cn84, Sp12, Sp13, Sp4, Sp5, Sp14. No condition but theirs. -/
import Derived.Test.YtfacmphjplablaaDoorProg
import Derived.KernelRfl
import Derived.Lib.ItoaNum
import Derived.Test.YtfacmphjplablaaDoorZSenderMay3
namespace Go.Proofs.YtfacmphjplablaaDoor.Sp
open Go Go.Proofs.YtfacmphjplablaaDoor.Av
set_option linter.unusedVariables false

structure Id where
  node : Int
  inc : Int
  seq : Int
deriving DecidableEq
structure Key where
  id : Id
  att : Int
deriving DecidableEq
structure Call where
  id : Id
  to : Int
  program : Int
  att : Int
  state : Int
  sent : Int
  ready : Int
  committed : Bool
  code : Int
  value : Int
  tries : Int
deriving DecidableEq
structure Owner where
  key : Key
  root : Id
  parent : Key
  «from» : Int
  hop : Int
  deadline : Int
  «until» : Int
  program : Int
  pc : Int
  done : Int
  calls : List Call
deriving DecidableEq
structure Pop where
  kind : Int
  a : Int
  b : Int
deriving DecidableEq
def Id.g (d : Id) : List G := [.int .i64 d.node, .int .i64 d.inc, .int .i64 d.seq]
def Key.g (k : Key) : List G := [.int .i64 k.id.node, .int .i64 k.id.inc, .int .i64 k.id.seq, .int .i64 k.att]
def Call.g (c : Call) : List G := [.int .i64 c.id.node, .int .i64 c.id.inc, .int .i64 c.id.seq, .int .i64 c.to, .int .i64 c.program, .int .i64 c.att, .int .i64 c.state, .int .i64 c.sent, .int .i64 c.ready, .bool c.committed, .int .i64 c.code, .int .i64 c.value, .int .i64 c.tries]
def Owner.g (o : Owner) : List G := [.int .i64 o.key.id.node, .int .i64 o.key.id.inc, .int .i64 o.key.id.seq, .int .i64 o.key.att, .int .i64 o.root.node, .int .i64 o.root.inc, .int .i64 o.root.seq,
  .int .i64 o.parent.id.node, .int .i64 o.parent.id.inc, .int .i64 o.parent.id.seq, .int .i64 o.parent.att, .int .i64 o.from, .int .i64 o.hop, .int .i64 o.deadline, .int .i64 o.until, .int .i64 o.program, .int .i64 o.pc, .int .i64 o.done, .sl (o.calls.map Call.g)]
def Pop.g (o : Pop) : List G := [.int .i64 o.kind, .int .i64 o.a, .int .i64 o.b]

def ownerEnds (o : Owner) : Int := if o.key.att = 0 then clamp o.deadline else leaseEnds o.deadline o.until
def ownerOver (o : Owner) (now : Int) : Int := leaseOver now o.deadline (if o.key.att = 0 then 1125899906842624 else o.until)
def open1 (n : Int) (c : Call) : Int := if c.state = 3 then n else n + 1
def openN (l : List Call) : Int := l.foldl open1 0
def worst1 (c : Int) (x : Call) : Int := if x.state = 3 then join c x.code else c
def worst (l : List Call) : Int := l.foldl worst1 0
def value (n : Int) : Int := if n < 0 then 0 else if n > 2147483647 then 2147483647 else n
def sum1 (n : Int) (c : Call) : Int := (n + value c.value) % 2147483648
def sum (l : List Call) (n : Int) : Int := l.foldl sum1 (value n)
def findI (l : List Call) (d : Id) : Int := match l.findIdx? (fun c => c.id == d) with | some i => (i : Int) | none => -1
theorem fold_at {α β : Type} {f : β → α → β} {b : β} {l : List α} {k : Nat} (hk : k < l.length) : (l.take (k + 1)).foldl f b = f ((l.take k).foldl f b) l[k] := by
  rw [List.take_succ_eq_append_getElem hk, List.foldl_append]; rfl
theorem fold_all {α β : Type} {f : β → α → β} {b : β} {l : List α} : (l.take l.length).foldl f b = l.foldl f b := by rw [List.take_length]
theorem openN_bd (l : List Call) : 0 ≤ openN l ∧ openN l ≤ l.length := by
  have key : ∀ (l : List Call) (n : Int), n ≤ l.foldl open1 n ∧ l.foldl open1 n ≤ n + l.length := by
    intro l
    induction l with
    | nil => intro n; simp
    | cons c l ih =>
      intro n
      have := ih (open1 n c)
      have h1 : n ≤ open1 n c ∧ open1 n c ≤ n + 1 := by unfold open1; split <;> omega
      simp only [List.foldl_cons, List.length_cons]
      omega
  have := key l 0
  unfold openN
  omega
theorem value_bd (n : Int) : 0 ≤ value n ∧ value n ≤ 2147483647 := by unfold value; (repeat' split) <;> omega
theorem sum_bd (l : List Call) (n : Int) : 0 ≤ sum l n ∧ sum l n ≤ 2147483647 := by
  have key : ∀ (l : List Call) (n : Int), 0 ≤ n ∧ n ≤ 2147483647 → 0 ≤ l.foldl sum1 n ∧ l.foldl sum1 n ≤ 2147483647 := by
    intro l
    induction l with
    | nil => intro n h; exact h
    | cons c l ih => intro n h; exact ih _ (by unfold sum1; have := value_bd c.value; omega)
  exact key l _ (value_bd n)

structure Deed where
  kind : Int
  a : Int
  b : Int
deriving DecidableEq
def Deed.g (o : Deed) : List G := [.int .i64 o.kind, .int .i64 o.a, .int .i64 o.b]
def nextO (o : Owner) : Owner := { o with pc := IntKind.i64.wrap (o.pc + 1), done := 0 }
def stepOp (o : Owner) (op : Pop) : Owner × Deed :=
  if op.kind = 1 then (if IntKind.i64.wrap (o.done + 1) ≥ op.a then nextO { o with done := IntKind.i64.wrap (o.done + 1) } else { o with done := IntKind.i64.wrap (o.done + 1) }, ⟨0, 0, 0⟩)
  else if op.kind = 2 then (nextO o, ⟨2, op.a, op.b⟩)
  else if op.kind = 3 then
    if openN o.calls > 0 then (o, ⟨1, 0, 0⟩) else if worst o.calls = 0 then (nextO o, ⟨0, 0, 0⟩) else (o, ⟨5, worst o.calls, 0⟩)
  else if op.kind = 4 then (nextO o, ⟨3, 0, 0⟩)
  else if op.kind = 5 then (o, ⟨4, sum o.calls op.a, 0⟩)
  else if op.kind = 6 then (o, ⟨5, clean op.a, 0⟩)
  else if op.kind = 7 then (o, ⟨6, if op.a < -1 then -1 else op.a, 0⟩)
  else (o, ⟨5, 13, 0⟩)
def stepO (o : Owner) (l : List Pop) : Owner × Deed :=
  if 0 ≤ o.pc then match l[o.pc.toNat]? with
    | some op => stepOp o op
    | none => (o, ⟨4, sum o.calls 0, 0⟩)
  else (o, ⟨4, sum o.calls 0, 0⟩)

def opRight (o : Pop) (nodes programs : Int) : Bool :=
  if o.kind ≠ 2 ∧ o.b ≠ 0 then false
  else if o.kind = 1 then decide (o.a ≥ 1) && decide (o.a ≤ 1000)
  else if o.kind = 2 then decide (o.a ≥ 0) && decide (o.a < nodes) && decide (o.b ≥ 0) && decide (o.b < programs)
  else if o.kind = 3 ∨ o.kind = 4 then decide (o.a = 0)
  else if o.kind = 5 then decide (o.a ≥ 0) && decide (o.a ≤ 2147483647)
  else if o.kind = 6 then decide (o.a ≥ 1) && decide (o.a ≤ 16)
  else if o.kind = 7 then decide (o.a ≥ -1) && decide (o.a ≤ 1000000)
  else false
def opsRight (l : List Pop) (nodes programs : Int) : Bool := l.all (fun o => opRight o nodes programs) && decide (l.length ≤ 16)
def unit1 (n : Int) (o : Pop) : Int := n + if o.kind = 1 then (if o.a < 0 then 0 else if o.a > 1000 then 1000 else o.a) else 1
def units (l : List Pop) : Int := l.foldl unit1 0
theorem units_bd (l : List Pop) : 0 ≤ units l ∧ units l ≤ 1000 * l.length := by
  have key : ∀ (l : List Pop) (n : Int), n ≤ l.foldl unit1 n ∧ l.foldl unit1 n ≤ n + 1000 * l.length := by
    intro l
    induction l with
    | nil => intro n; simp
    | cons c l ih =>
      intro n
      have := ih (unit1 n c)
      have h1 : n ≤ unit1 n c ∧ unit1 n c ≤ n + 1000 := by unfold unit1; (repeat' split) <;> omega
      simp only [List.foldl_cons, List.length_cons]
      omega
  have := key l 0
  unfold units
  omega
theorem units_le (l : List Pop) (j : Nat) : units (l.take j) ≤ units l := by
  have key : ∀ (l : List Pop) (n : Int), n ≤ l.foldl unit1 n := by
    intro l
    induction l with
    | nil => intro n; simp
    | cons c l ih =>
      intro n
      have := ih (unit1 n c)
      have h1 : n ≤ unit1 n c := by unfold unit1; (repeat' split) <;> omega
      simp only [List.foldl_cons]
      omega
  have e : units l = (l.drop j).foldl unit1 (units (l.take j)) := by unfold units; rw [← List.foldl_append, List.take_append_drop]
  rw [e]; exact key _ _
theorem units_at {l : List Pop} {k : Nat} (hk : k < l.length) : units (l.take (k + 1)) = unit1 (units (l.take k)) l[k] := by unfold units; exact fold_at hk
def o0 (pc done : Int) : Owner := ⟨⟨⟨0, 0, 0⟩, 0⟩, ⟨0, 0, 0⟩, ⟨⟨0, 0, 0⟩, 0⟩, 0, 0, 0, 0, 0, pc, done, []⟩
def EndI (l : List Pop) (k : Nat) (pc done : Int) : Prop :=
  ∃ p : Nat, pc = p ∧ p ≤ l.length ∧ 0 ≤ done ∧ (k : Int) = units (l.take p) + done ∧ (done = 0 ∨ ∃ op, l[p]? = some op ∧ op.kind = 1 ∧ done < op.a)
theorem opRight_of {l : List Pop} (h : opsRight l 3 2 = true) {p : Nat} {op : Pop} (hp : l[p]? = some op) : opRight op 3 2 = true := by
  unfold opsRight at h
  simp only [Bool.and_eq_true, List.all_eq_true] at h
  exact h.1 _ (List.mem_of_getElem? hp)
theorem opRight_work {o : Pop} {n p : Int} (h : opRight o n p = true) (h1 : o.kind = 1) : 1 ≤ o.a ∧ o.a ≤ 1000 := by
  unfold opRight at h
  split at h
  · cases h
  · simp [h1] at h; omega
theorem opRight_kinds {o : Pop} {n p : Int} (h : opRight o n p = true) : 1 ≤ o.kind ∧ o.kind ≤ 7 := by
  unfold opRight at h
  (repeat' split at h) <;> first | omega | cases h
theorem units_at' {l : List Pop} {k : Nat} {op : Pop} (hk : l[k]? = some op) : units (l.take (k + 1)) = unit1 (units (l.take k)) op := by
  obtain ⟨h1, rfl⟩ := List.getElem?_eq_some_iff.1 hk
  exact units_at h1
theorem endI_le {l : List Pop} {k : Nat} {pc done : Int} (h : opsRight l 3 2 = true) (hI : EndI l k pc done) : (k : Int) ≤ units l := by
  obtain ⟨p, rfl, h1, h2, h3, h4⟩ := hI
  rcases h4 with rfl | ⟨op, hp, h5, h6⟩
  · have := units_le l p; omega
  · have := units_le l (p + 1)
    have ha := opRight_work (opRight_of h hp) h5
    rw [units_at' hp] at this
    unfold unit1 at this
    rw [if_pos h5, if_neg (by omega), if_neg (by omega)] at this
    omega
theorem endI_step {l : List Pop} {k : Nat} {pc done : Int} (h : opsRight l 3 2 = true) (hn : ∀ o ∈ l, o.kind ≠ 2) (hI : EndI l k pc done) :
    (∃ kd x y o', (kd = 4 ∨ kd = 5 ∨ kd = 6) ∧ stepO (o0 pc done) l = (o', ⟨kd, x, y⟩)) ∨
    (∃ kd x y pc' done', (kd = 0 ∨ kd = 3) ∧ stepO (o0 pc done) l = (o0 pc' done', ⟨kd, x, y⟩) ∧ (pc' = pc → done' = done + 1) ∧ EndI l (k + 1) pc' done') := by
  obtain ⟨p, rfl, h1, h2, h3, h4⟩ := hI
  have hlen : l.length ≤ 16 := by unfold opsRight at h; simp only [Bool.and_eq_true, decide_eq_true_eq] at h; exact h.2
  have e0 : stepO (o0 p done) l = match l[p]? with | some op => stepOp (o0 p done) op | none => (o0 p done, ⟨4, sum [] 0, 0⟩) := by
    unfold stepO
    show (if 0 ≤ (p : Int) then _ else _) = _
    rw [if_pos (by omega)]
    rfl
  rw [e0]
  cases hp : l[p]? with
  | none => exact .inl ⟨4, sum [] 0, 0, o0 p done, .inl rfl, rfl⟩
  | some op =>
    have hlt : p < l.length := (List.getElem?_eq_some_iff.1 hp).1
    have hr := opRight_of h hp
    have hk := hn _ (List.mem_of_getElem? hp)
    have hu := units_at' hp
    have h4' : done = 0 ∨ (op.kind = 1 ∧ done < op.a) := h4.imp_right fun ⟨q, hq, h5, h6⟩ => by rw [hp] at hq; cases hq; exact ⟨h5, h6⟩
    clear h4
    have hkd := opRight_kinds hr
    have hw : IntKind.i64.wrap ((p : Int) + 1) = (p : Int) + 1 := wrap_i64 (by omega)
    have hnext : ∀ d, nextO (o0 p d) = o0 ((p : Int) + 1) 0 := fun d => by
      unfold nextO
      show o0 (IntKind.i64.wrap ((p : Int) + 1)) 0 = _
      rw [hw]
    simp only
    by_cases c1 : op.kind = 1
    · right
      have ha := opRight_work hr c1
      have hd : done < op.a := by omega
      have hwd : IntKind.i64.wrap (done + 1) = done + 1 := wrap_i64 (by omega)
      have hs : stepOp (o0 p done) op = (if done + 1 ≥ op.a then o0 ((p : Int) + 1) 0 else o0 p (done + 1), ⟨0, 0, 0⟩) := by
        unfold stepOp
        rw [if_pos c1]
        show (if IntKind.i64.wrap (done + 1) ≥ op.a then nextO (o0 p (IntKind.i64.wrap (done + 1))) else o0 p (IntKind.i64.wrap (done + 1)), _) = _
        rw [hwd, hnext]
      rw [hs]
      by_cases c2 : done + 1 ≥ op.a
      · rw [if_pos c2]
        refine ⟨0, 0, 0, _, _, .inl rfl, rfl, by omega, p + 1, by omega, hlt, by omega, ?_, .inl rfl⟩
        rw [hu]; unfold unit1
        rw [if_pos c1, if_neg (by omega), if_neg (by omega)]
        omega
      · rw [if_neg c2]
        exact ⟨0, 0, 0, _, _, .inl rfl, rfl, fun _ => rfl, p, rfl, h1, by omega, by omega, .inr ⟨op, hp, c1, by omega⟩⟩
    · have hd0 : done = 0 := by omega
      subst hd0
      have nx : EndI l (k + 1) ((p : Int) + 1) 0 := by
        refine ⟨p + 1, by omega, hlt, by omega, ?_, .inl rfl⟩
        rw [hu]; unfold unit1
        rw [if_neg c1]
        omega
      by_cases c3 : op.kind = 3
      · right
        have hs : stepOp (o0 p 0) op = (o0 ((p : Int) + 1) 0, ⟨0, 0, 0⟩) := by
          unfold stepOp
          rw [if_neg c1, if_neg hk, if_pos c3, hnext]
          rfl
        rw [hs]
        exact ⟨0, 0, 0, _, _, .inl rfl, rfl, by omega, nx⟩
      by_cases c4 : op.kind = 4
      · right
        have hs : stepOp (o0 p 0) op = (o0 ((p : Int) + 1) 0, ⟨3, 0, 0⟩) := by
          unfold stepOp
          rw [if_neg c1, if_neg hk, if_neg c3, if_pos c4, hnext]
        rw [hs]
        exact ⟨3, 0, 0, _, _, .inr rfl, rfl, by omega, nx⟩
      left
      unfold stepOp
      rw [if_neg c1, if_neg hk, if_neg c3, if_neg c4]
      by_cases c5 : op.kind = 5
      · rw [if_pos c5]; exact ⟨4, _, _, _, .inl rfl, rfl⟩
      by_cases c6 : op.kind = 6
      · rw [if_neg c5, if_pos c6]; exact ⟨5, _, _, _, .inr (.inl rfl), rfl⟩
      · rw [if_neg c5, if_neg c6, if_pos (by omega)]; exact ⟨6, _, _, _, .inr (.inr rfl), rfl⟩
theorem endI_zero (l : List Pop) : EndI l 0 0 0 := ⟨0, rfl, Nat.zero_le _, by omega, by rfl, .inl rfl⟩
end Go.Proofs.YtfacmphjplablaaDoor.Sp
namespace Go.Proofs.YtfacmphjplablaaDoor.Sp
open Go Go.Proofs.YtfacmphjplablaaDoor.Av
set_option linter.unusedVariables false

/-- An owner's cells, with another last one. -/
def Owner.gw (o : Owner) (x : G) : List G := [.int .i64 o.key.id.node, .int .i64 o.key.id.inc, .int .i64 o.key.id.seq, .int .i64 o.key.att, .int .i64 o.root.node, .int .i64 o.root.inc, .int .i64 o.root.seq,
  .int .i64 o.parent.id.node, .int .i64 o.parent.id.inc, .int .i64 o.parent.id.seq, .int .i64 o.parent.att, .int .i64 o.from, .int .i64 o.hop, .int .i64 o.deadline, .int .i64 o.until, .int .i64 o.program, .int .i64 o.pc, .int .i64 o.done, x]
def zOwner : Owner := ⟨⟨⟨0, 0, 0⟩, 0⟩, ⟨0, 0, 0⟩, ⟨⟨0, 0, 0⟩, 0⟩, 0, 0, 0, 0, 0, 0, 0, []⟩
/-- An own row of n elements, as a loop's head tells it. -/
def OwnI {α : Type} (R : α → List G) (l : List α) (k : Nat) (b : Nat × List (List G)) : Prop := b.1 = k ∧ b.2 = (l.take k).map R
theorem take_at {α : Type} {l : List α} {k : Nat} (hk : k < l.length) : l.take (k + 1) = l.take k ++ [l[k]] := List.take_succ_eq_append_getElem hk
/-! Equality by parts. -/
theorem id_eqB (c d : Id) : (c.node == d.node && (c.inc == d.inc && (c.seq == d.seq && true))) = decide (c = d) := by
  obtain ⟨a, b, e⟩ := c; obtain ⟨a', b', e'⟩ := d
  rw [Bool.eq_iff_iff]; simp [and_assoc]
theorem key_eqB (c d : Key) : ((c.id.node == d.id.node && (c.id.inc == d.id.inc && (c.id.seq == d.id.seq && true))) && (c.att == d.att && true)) = decide (c = d) := by
  obtain ⟨⟨a, b, e⟩, f⟩ := c; obtain ⟨⟨a', b', e'⟩, f'⟩ := d
  rw [Bool.eq_iff_iff]; simp [and_assoc]
theorem key_eqC (c d : Key) : (decide (c.id = d.id) && (c.att == d.att && true)) = decide (c = d) := by rw [← id_eqB]; exact key_eqB c d
theorem call_eqB (c d : Call) : ((c.id.node == d.id.node && (c.id.inc == d.id.inc && (c.id.seq == d.id.seq && true))) && (c.to == d.to && (c.program == d.program && (c.att == d.att && (c.state == d.state && (c.sent == d.sent && (c.ready == d.ready && (c.committed == d.committed && (c.code == d.code && (c.value == d.value && (c.tries == d.tries && true))))))))))) = decide (c = d) := by
  obtain ⟨⟨a, b, e⟩, _, _, _, _, _, _, _, _, _, _⟩ := c; obtain ⟨⟨a', b', e'⟩, _, _, _, _, _, _, _, _, _, _⟩ := d
  rw [Bool.eq_iff_iff]; simp [and_assoc]
/-- The parts beside the calls. -/
def sameH (a b : Owner) : Prop := a.key = b.key ∧ a.root = b.root ∧ a.parent = b.parent ∧ a.from = b.from ∧ a.hop = b.hop ∧ a.deadline = b.deadline ∧ a.until = b.until ∧ a.program = b.program ∧ a.pc = b.pc ∧ a.done = b.done
theorem owner_ext (a b : Owner) : a = b ↔ sameH a b ∧ a.calls = b.calls := by
  obtain ⟨_, _, _, _, _, _, _, _, _, _, _⟩ := a; obtain ⟨_, _, _, _, _, _, _, _, _, _, _⟩ := b
  simp [sameH, and_assoc]
theorem take_eq_all {α : Type} {l m : List α} (h : l.length = m.length) (e : l.take l.length = m.take l.length) : l = m := by
  rw [List.take_length] at e; rw [h, List.take_length] at e; exact e
/-- What is put: in the place of the one of its name, or last. -/
def withC (l : List Call) (c : Call) : List Call := match l.findIdx? (fun x => x.id == c.id) with | some i => l.set i c | none => l ++ [c]
def withO (o : Owner) (c : Call) : Owner := { o with calls := withC o.calls c }
end Go.Proofs.YtfacmphjplablaaDoor.Sp
namespace Go.Proofs.YtfacmphjplablaaDoor.Cn
open Go Go.Proofs Go.Proofs.YtfacmphjplablaaDoor.Av Go.Proofs.YtfacmphjplablaaDoor.Sp
set_option linter.unusedVariables false
set_option linter.unusedSimpArgs false
set_option linter.unusedSectionVars false
set_option maxRecDepth 100000
attribute [local irreducible] Fv Fp

theorem u8_xor (u v : UInt8) : IntKind.u8.wrap ((BitVec.ofInt IntKind.u8.bits (u.toNat : Int) ^^^ BitVec.ofInt IntKind.u8.bits (v.toNat : Int)).toNat : Nat) = ((u ^^^ v).toNat : Int) := by
  have e : ∀ u : UInt8, BitVec.ofInt IntKind.u8.bits (u.toNat : Int) = u.toBitVec := fun u => by
    show BitVec.ofInt 8 _ = _
    rw [BitVec.ofInt_natCast]
    apply BitVec.eq_of_toNat_eq
    rw [BitVec.toNat_ofNat]
    exact Nat.mod_eq_of_lt u.toBitVec.isLt
  rw [e, e, wrap_u8]
  show ((UInt8.ofNat (u ^^^ v).toNat).toNat : Int) = _
  rw [UInt8.ofNat_toNat]
end Go.Proofs.YtfacmphjplablaaDoor.Cn
namespace Go.Proofs.YtfacmphjplablaaDoor.Sp
open Go Go.Proofs.YtfacmphjplablaaDoor.Av
set_option linter.unusedVariables false

structure Packet where
  kind : Int
  «from» : Int
  to : Int
  key : Key
  hop : Int
  stamp : Int
  timeout : ByteArray
  «until» : Int
  program : Int
  root : Id
  parent : Key
  code : Int
  value : Int
  more : Bool
  delay : Int
deriving DecidableEq
def Packet.g (p : Packet) : List G := [.int .i64 p.kind, .int .i64 p.from, .int .i64 p.to, .int .i64 p.key.id.node, .int .i64 p.key.id.inc, .int .i64 p.key.id.seq, .int .i64 p.key.att, .int .i64 p.hop, .int .i64 p.stamp, .str p.timeout, .int .i64 p.until, .int .i64 p.program,
  .int .i64 p.root.node, .int .i64 p.root.inc, .int .i64 p.root.seq, .int .i64 p.parent.id.node, .int .i64 p.parent.id.inc, .int .i64 p.parent.id.seq, .int .i64 p.parent.att, .int .i64 p.code, .int .i64 p.value, .bool p.more, .int .i64 p.delay]
def zP : Packet := ⟨0, 0, 0, ⟨⟨0, 0, 0⟩, 0⟩, 0, 0, ⟨#[]⟩, 0, 0, ⟨0, 0, 0⟩, ⟨⟨0, 0, 0⟩, 0⟩, 0, 0, false, 0⟩
end Go.Proofs.YtfacmphjplablaaDoor.Sp
namespace Go.Proofs.YtfacmphjplablaaDoor.Sp
open Go Go.Proofs.YtfacmphjplablaaDoor.Av
set_option linter.unusedVariables false

def mulT (a b : Int) : Int := clamp (clamp a * clamp b)
def unitI (c : Int) : Int := if c = 117 then 1 else if c = 109 then 1000 else if c = 83 then 1000000 else if c = 77 then 60000000 else if c = 72 then 3600000000 else 0
theorem unit_bd (c : Int) : 0 ≤ unitI c ∧ unitI c ≤ 3600000000 := by unfold unitI; (repeat' split) <;> omega
def dig (s : ByteArray) (i : Nat) : Bool := decide (48 ≤ byteAt s i ∧ byteAt s i ≤ 57)
def okD (s : ByteArray) (k : Nat) : Bool := (List.range k).all (dig s)
def decN (s : ByteArray) (k : Nat) : Int := (List.range k).foldl (fun n i => n * 10 + (byteAt s i - 48)) 0
def dec (s : ByteArray) : Int × Int :=
  if s.size < 2 ∨ 9 < s.size then (0, 3)
  else if okD s (s.size - 1) = false then (0, 5)
  else if byteAt s (s.size - 1) = 110 then (decN s (s.size - 1) / 1000, 0)
  else if unitI (byteAt s (s.size - 1)) = 0 then (0, 5)
  else (mulT (decN s (s.size - 1)) (unitI (byteAt s (s.size - 1))), 0)
theorem okD_succ (s : ByteArray) (k : Nat) : okD s (k + 1) = (okD s k && dig s k) := by unfold okD; rw [List.range_succ, List.all_append]; simp
theorem decN_succ (s : ByteArray) (k : Nat) : decN s (k + 1) = decN s k * 10 + (byteAt s k - 48) := by unfold decN; rw [List.range_succ, List.foldl_append]; rfl
theorem okD_at {s : ByteArray} {k i : Nat} (h : okD s k = true) (hi : i < k) : 48 ≤ byteAt s i ∧ byteAt s i ≤ 57 := by
  unfold okD at h
  have := List.all_eq_true.1 h i (List.mem_range.2 hi)
  simpa [dig] using this
theorem okD_no {s : ByteArray} {k i : Nat} (hi : i < k) (h : ¬ (48 ≤ byteAt s i ∧ byteAt s i ≤ 57)) : okD s k = false := by
  cases hk : okD s k with
  | false => rfl
  | true => exact absurd (okD_at hk hi) h
theorem decN_bd (s : ByteArray) : ∀ (k : Nat), okD s k = true → 0 ≤ decN s k ∧ decN s k < 10 ^ k
  | 0, _ => ⟨Int.le_refl _, by show (0 : Int) < 10 ^ 0; decide⟩
  | k + 1, h => by
    have h1 := okD_at h (Nat.lt_succ_self k)
    rw [okD_succ, Bool.and_eq_true] at h
    have ih := decN_bd s k h.1
    rw [decN_succ, Int.pow_succ]
    omega
theorem pow10_le {k : Nat} (h : k ≤ 8) : (10 : Int) ^ k ≤ 100000000 := by
  have : k = 0 ∨ k = 1 ∨ k = 2 ∨ k = 3 ∨ k = 4 ∨ k = 5 ∨ k = 6 ∨ k = 7 ∨ k = 8 := by omega
  rcases this with rfl | rfl | rfl | rfl | rfl | rfl | rfl | rfl | rfl <;> decide
/-- Doubling, cut off at the greatest time. -/
theorem clamp_mul {x y : Int} (c : Int) (hx : 0 ≤ x) (hy : 0 ≤ y) (hc : 0 ≤ c) : clamp (clamp x + clamp y * c) = clamp (x + y * c) := by
  have hxy := Int.mul_nonneg hy hc
  rcases Int.lt_or_le 0 c with h | h
  · by_cases h1 : x ≤ 1125899906842624
    · rw [clamp_id ⟨hx, h1⟩]
      by_cases h2 : y ≤ 1125899906842624
      · rw [clamp_id ⟨hy, h2⟩]
      · have e : clamp y = 1125899906842624 := by unfold clamp; rw [if_neg (by omega), if_pos (by omega)]
        rw [e]
        have h3 : 1125899906842624 ≤ 1125899906842624 * c := by have := Int.mul_le_mul_of_nonneg_left (show 1 ≤ c by omega) (show (0 : Int) ≤ 1125899906842624 by omega); omega
        have h4 : y ≤ y * c := by have := Int.mul_le_mul_of_nonneg_left (show 1 ≤ c by omega) hy; omega
        unfold clamp
        (repeat' split) <;> omega
    · have e : clamp x = 1125899906842624 := by unfold clamp; rw [if_neg (by omega), if_pos (by omega)]
      rw [e]
      have h3 : 0 ≤ clamp y * c := Int.mul_nonneg (clamp_bd y).1 hc
      unfold clamp at h3 ⊢
      (repeat' split) <;> omega
  · obtain rfl : c = 0 := by omega
    simp only [Int.mul_zero, Int.add_zero]
    have h1 := clamp_bd x
    rw [clamp_id h1]
theorem clamp_clamp (x : Int) : clamp (clamp x) = clamp x := clamp_id (clamp_bd x)
theorem add_eq (a b : Int) (ha : 0 ≤ a ∧ a ≤ 1125899906842624) (hb : 0 ≤ b ∧ b ≤ 1125899906842624) : add a b = clamp (a + b) := by unfold add; rw [clamp_id ha, clamp_id hb]
/-- A round of the document's product: the last bit, and the rest twice as often. -/
theorem mul_round {n a b : Int} (hn : 0 ≤ n ∧ n ≤ 1125899906842624) (ha : 0 ≤ a ∧ a ≤ 1125899906842624) (hb : 0 ≤ b) : clamp ((if b % 2 = 1 then add n a else n) + add a a * (b / 2)) = clamp (n + a * b) := by
  have hc : 0 ≤ b / 2 := by omega
  rw [add_eq a a ha ha]
  have e : ∀ x : Int, 0 ≤ x → clamp (clamp x + clamp (a + a) * (b / 2)) = clamp (x + (a + a) * (b / 2)) := fun x hx => clamp_mul _ hx (by omega) hc
  have key : (a + a) * (b / 2) = a * (2 * (b / 2)) := by rw [← Int.mul_assoc]; congr 1; omega
  split
  · rename_i h
    rw [add_eq n a hn ha, e _ (by omega), key]
    congr 1
    have : a * b = a * (2 * (b / 2)) + a := by
      have h2 : b = 2 * (b / 2) + 1 := by omega
      conv => lhs; rw [h2]
      rw [Int.mul_add, Int.mul_one]
    omega
  · rename_i h
    have h1 := e n hn.1
    rw [clamp_id hn] at h1
    rw [h1, key]
    congr 2
    congr 1
    omega
end Go.Proofs.YtfacmphjplablaaDoor.Sp
namespace Go.Proofs.YtfacmphjplablaaDoor.Sp
open Go Go.Proofs.YtfacmphjplablaaDoor.Av
set_option linter.unusedVariables false
set_option maxRecDepth 100000

def okId (d : Id) : Bool := decide (0 ≤ d.node ∧ d.node < 64 ∧ 0 ≤ d.inc ∧ d.inc ≤ 65535 ∧ 1 ≤ d.seq ∧ d.seq ≤ 16777215)
def okKey (k : Key) : Bool := okId k.id && decide (0 ≤ k.att ∧ k.att ≤ 5)
def idB (d : Id) : ByteArray := numB d.node 1 ++ numB d.inc 2 ++ numB d.seq 3
def keyB (k : Key) : ByteArray := idB k.id ++ numB k.att 1
def textB (s : ByteArray) : ByteArray := if s.size < 256 then numB s.size 1 ++ s else ⟨#[]⟩
def flagB (b : Bool) : ByteArray := strL [if b then 1 else 0]
def zId : Id := ⟨0, 0, 0⟩
def zKey : Key := ⟨zId, 0⟩
def rId (r : Rd) : Rd × Id :=
  let d : Id := ⟨(rNum r 1).2, (rNum (rNum r 1).1 2).2, (rNum (rNum (rNum r 1).1 2).1 3).2⟩
  if okId d then ((rNum (rNum (rNum r 1).1 2).1 3).1, d) else (rFail (rNum (rNum (rNum r 1).1 2).1 3).1 2, zId)
def rKey (r : Rd) : Rd × Key :=
  let k : Key := ⟨(rId r).2, (rNum (rId r).1 1).2⟩
  if okKey k then ((rNum (rId r).1 1).1, k) else (rFail (rNum (rId r).1 1).1 2, zKey)
theorem rFail_ok (r : Rd) (e : Int) (h : r.ok) : (rFail r e).ok := h
theorem rId_ok (r : Rd) (h : r.ok) : (rId r).1.ok := by
  unfold rId; simp only
  have := rNum_ok _ 3 (rNum_ok _ 2 (rNum_ok r 1 h))
  split
  · exact this
  · exact rFail_ok _ _ this
theorem rKey_ok (r : Rd) (h : r.ok) : (rKey r).1.ok := by
  unfold rKey; simp only
  have := rNum_ok _ 1 (rId_ok r h)
  split
  · exact this
  · exact rFail_ok _ _ this
theorem rText_ok (r : Rd) (h : r.ok) : (rText r).1.ok := rTake_ok _ _ (rNum_ok r 1 h)
theorem rFlag_ok (r : Rd) (h : r.ok) : (rFlag r).1.ok := rNum_ok r 1 h

/-! What stands ahead of a reader. -/
def At (r : Rd) (l : List UInt8) : Prop := r.bad = 0 ∧ r.at' ≤ r.S.size ∧ r.S.data.toList.drop r.at' = l
theorem At.len {r : Rd} {l : List UInt8} (h : At r l) : (l.length : Int) = (r.S.size : Int) - r.at' := by
  obtain ⟨_, h2, h3⟩ := h
  rw [← h3, List.length_drop, size_list]; omega
theorem numOf_at {r : Rd} {l : List UInt8} (h : At r l) (w : Nat) : numOf r.S r.at' w = numOf (strL l) 0 w := by
  obtain ⟨_, h2, h3⟩ := h
  unfold numOf
  congr 1
  funext n i
  unfold num1 byteAt
  congr 2
  rw [strL_list, ← h3, List.getD_eq_getElem?_getD, List.getD_eq_getElem?_getD, List.getElem?_drop, Nat.zero_add]
theorem At.move {r : Rd} {l : List UInt8} (h : At r l) {n : Nat} (hn : n ≤ l.length) : At { r with at' := r.at' + n } (l.drop n) := by
  obtain ⟨h1, h2, h3⟩ := h
  refine ⟨h1, ?_, ?_⟩
  · have : l.length = r.S.size - r.at' := by rw [← h3, List.length_drop, size_list]
    show r.at' + n ≤ r.S.size
    omega
  · show r.S.data.toList.drop (r.at' + n) = _
    rw [← h3, List.drop_drop]
theorem rNum_at {r : Rd} {n w : Nat} {l : List UInt8} (h1 : 1 ≤ w) (h7 : w ≤ 7) (hn : n < 256 ^ w) (h : At r (dgs n w ++ l)) : (rNum r w).2 = n ∧ At (rNum r w).1 l := by
  have hl := h.len
  rw [List.length_append, dgs_len] at hl
  have e : rNum r w = ({ r with at' := r.at' + w }, numOf r.S r.at' w) := by
    unfold rNum
    rw [if_neg (by omega), if_neg (by simp [h.1]), if_neg (by omega)]; rfl
  rw [e]
  refine ⟨?_, ?_⟩
  · show numOf r.S r.at' w = _
    rw [numOf_at h, numOf_dgs, Nat.mod_eq_of_lt hn]
  · have := h.move (n := w) (by rw [List.length_append, dgs_len]; omega)
    rw [List.drop_left' (dgs_len n w)] at this
    exact this
/-- What was read is what was told. -/
theorem rNum_inv {r : Rd} {w : Nat} {l : List UInt8} (h1 : 1 ≤ w) (h7 : w ≤ 7) (h : At r l) (hb : (rNum r w).1.bad = 0) : ∃ (n : Nat) (m : List UInt8), (rNum r w).2 = n ∧ n < 256 ^ w ∧ l = dgs n w ++ m ∧ At (rNum r w).1 m := by
  have hl := h.len
  unfold rNum at hb ⊢
  rw [if_neg (by omega), if_neg (by simp [h.1])] at hb ⊢
  split at hb
  · exact absurd (show (3 : Int) = 0 from hb) (by decide)
  · rename_i hw
    rw [if_neg hw]
    have hle : w ≤ l.length := by omega
    obtain ⟨b1, b2⟩ := numOf_bd r.S r.at' w
    obtain ⟨n, hn⟩ := Int.eq_ofNat_of_zero_le b1
    refine ⟨n, l.drop w, hn, ?_, ?_, h.move hle⟩
    · rw [hn, ← pow_cast] at b2; omega
    · have := dgs_numOf r.S r.at' w (by have := h.2.1; omega)
      rw [hn, Int.toNat_natCast] at this
      rw [this, h.2.2, List.take_append_drop]
theorem rNum_bad {r : Rd} {w : Int} (h : (rNum r w).1.bad = 0) (h1 : 1 ≤ w) (h7 : w ≤ 7) : r.bad = 0 := by
  unfold rNum at h
  rw [if_neg (by omega)] at h
  by_cases hb : r.bad = 0
  · exact hb
  · rw [if_pos hb] at h; exact h
theorem rFail_bad {r : Rd} {e : Int} (he : e ≠ 0) : (rFail r e).bad ≠ 0 := by
  unfold rFail; simp only; split
  · exact he
  · assumption
/-! Numbers, identities, keys, texts, truths. -/
theorem numB_list {n w : Nat} (h1 : 1 ≤ w) (h2 : w ≤ 7) (h3 : n < 256 ^ w) : (numB (n : Int) (w : Int)).data.toList = dgs n w := by rw [numB_yes h1 h2 h3]; rfl
theorem num_at {r : Rd} {x : Int} {w : Nat} {l : List UInt8} (h1 : 1 ≤ w) (h7 : w ≤ 7) (h0 : 0 ≤ x) (hx : x < 256 ^ w) (h : At r ((numB x w).data.toList ++ l)) : (rNum r w).2 = x ∧ At (rNum r w).1 l := by
  obtain ⟨n, rfl⟩ := Int.eq_ofNat_of_zero_le h0
  have hn : n < 256 ^ w := by rw [← pow_cast] at hx; omega
  rw [numB_list h1 h7 hn] at h
  exact rNum_at h1 h7 hn h
theorem num_inv {r : Rd} {w : Nat} {l : List UInt8} (h1 : 1 ≤ w) (h7 : w ≤ 7) (h : At r l) (hb : (rNum r w).1.bad = 0) : ∃ (m : List UInt8), 0 ≤ (rNum r w).2 ∧ (rNum r w).2 < 256 ^ w ∧ l = (numB (rNum r w).2 w).data.toList ++ m ∧ At (rNum r w).1 m := by
  obtain ⟨n, m, e, hn, hl, hA⟩ := rNum_inv h1 h7 h hb
  refine ⟨m, by omega, ?_, ?_, hA⟩
  · rw [e, ← pow_cast]; omega
  · rw [e, numB_list h1 h7 hn, hl]
theorem okId_iff (d : Id) : okId d = true ↔ 0 ≤ d.node ∧ d.node < 64 ∧ 0 ≤ d.inc ∧ d.inc ≤ 65535 ∧ 1 ≤ d.seq ∧ d.seq ≤ 16777215 := by unfold okId; simp
theorem okKey_iff (k : Key) : okKey k = true ↔ okId k.id = true ∧ 0 ≤ k.att ∧ k.att ≤ 5 := by unfold okKey; simp
theorem id_at {r : Rd} {d : Id} {l : List UInt8} (hd : okId d = true) (h : At r ((idB d).data.toList ++ l)) : (rId r).2 = d ∧ At (rId r).1 l := by
  have k := (okId_iff d).1 hd
  unfold idB at h
  rw [app_list, app_list, List.append_assoc, List.append_assoc] at h
  obtain ⟨e1, h1⟩ := num_at (w := 1) (by omega) (by omega) (by omega) (by omega) h
  obtain ⟨e2, h2⟩ := num_at (w := 2) (by omega) (by omega) (by omega) (by omega) h1
  obtain ⟨e3, h3⟩ := num_at (w := 3) (by omega) (by omega) (by omega) (by omega) h2
  unfold rId
  simp only
  have e : (⟨(rNum r 1).2, (rNum (rNum r 1).1 2).2, (rNum (rNum (rNum r 1).1 2).1 3).2⟩ : Id) = d := by
    obtain ⟨a, b, c⟩ := d
    simp only [Id.mk.injEq]
    exact ⟨e1, e2, e3⟩
  rw [e, if_pos hd]
  exact ⟨rfl, h3⟩
theorem id_inv {r : Rd} {l : List UInt8} (h : At r l) (hb : (rId r).1.bad = 0) : ∃ m, okId (rId r).2 = true ∧ l = (idB (rId r).2).data.toList ++ m ∧ At (rId r).1 m := by
  unfold rId at hb ⊢
  simp only at hb ⊢
  split at hb
  · rename_i hd
    rw [if_pos hd]
    have b2 := rNum_bad (w := 3) hb (by omega) (by omega)
    have b1 := rNum_bad (w := 2) b2 (by omega) (by omega)
    obtain ⟨m1, _, _, l1, h1⟩ := num_inv (w := 1) (by omega) (by omega) h b1
    obtain ⟨m2, _, _, l2, h2⟩ := num_inv (w := 2) (by omega) (by omega) h1 b2
    obtain ⟨m3, _, _, l3, h3⟩ := num_inv (w := 3) (by omega) (by omega) h2 hb
    refine ⟨m3, hd, ?_, h3⟩
    rw [l1, l2, l3]
    unfold idB
    rw [app_list, app_list, List.append_assoc, List.append_assoc]
    rfl
  · exact absurd hb (rFail_bad (by omega))
theorem key_at {r : Rd} {k : Key} {l : List UInt8} (hk : okKey k = true) (h : At r ((keyB k).data.toList ++ l)) : (rKey r).2 = k ∧ At (rKey r).1 l := by
  obtain ⟨hd, ha⟩ := (okKey_iff k).1 hk
  unfold keyB at h
  rw [app_list, List.append_assoc] at h
  obtain ⟨e1, h1⟩ := id_at hd h
  obtain ⟨e2, h2⟩ := num_at (w := 1) (by omega) (by omega) (by omega) (by omega) h1
  unfold rKey
  simp only
  have e : (⟨(rId r).2, (rNum (rId r).1 1).2⟩ : Key) = k := by
    obtain ⟨a, b⟩ := k
    simp only [Key.mk.injEq]
    exact ⟨e1, e2⟩
  rw [e, if_pos hk]
  exact ⟨rfl, h2⟩
theorem rId_bad {r : Rd} (h : (rId r).1.bad = 0) : r.bad = 0 := by
  unfold rId at h
  simp only at h
  split at h
  · exact rNum_bad (w := 1) (rNum_bad (w := 2) (rNum_bad (w := 3) h (by omega) (by omega)) (by omega) (by omega)) (by omega) (by omega)
  · exact absurd h (rFail_bad (by omega))
theorem rKey_bad {r : Rd} (h : (rKey r).1.bad = 0) : r.bad = 0 := by
  unfold rKey at h
  simp only at h
  split at h
  · exact rId_bad (rNum_bad (w := 1) h (by omega) (by omega))
  · exact absurd h (rFail_bad (by omega))
theorem key_inv {r : Rd} {l : List UInt8} (h : At r l) (hb : (rKey r).1.bad = 0) : ∃ m, okKey (rKey r).2 = true ∧ l = (keyB (rKey r).2).data.toList ++ m ∧ At (rKey r).1 m := by
  unfold rKey at hb ⊢
  simp only at hb ⊢
  split at hb
  · rename_i hk
    rw [if_pos hk]
    have b1 := rNum_bad (w := 1) hb (by omega) (by omega)
    obtain ⟨m1, _, l1, h1⟩ := id_inv h b1
    obtain ⟨m2, _, _, l2, h2⟩ := num_inv (w := 1) (by omega) (by omega) h1 hb
    refine ⟨m2, hk, ?_, h2⟩
    rw [l1, l2]
    unfold keyB
    rw [app_list, List.append_assoc]
    rfl
  · exact absurd hb (rFail_bad (by omega))
theorem text_at {r : Rd} {s : ByteArray} {l : List UInt8} (hs : s.size < 256) (h : At r ((textB s).data.toList ++ l)) : (rText r).2 = s ∧ At (rText r).1 l := by
  unfold textB at h
  rw [if_pos hs, app_list, List.append_assoc] at h
  have hx : ((s.size : Nat) : Int) < 256 ^ 1 := by omega
  have hn : (s.size : Nat) < 256 ^ 1 := by omega
  have e0 : (numB ((s.size : Nat) : Int) 1).data.toList = dgs s.size 1 := numB_list (w := 1) (Nat.le_refl 1) (by omega) hn
  rw [e0] at h
  obtain ⟨e1, h1⟩ := rNum_at (w := 1) (Nat.le_refl 1) (by omega) hn h
  have e1 : (rNum r 1).2 = (s.size : Int) := e1
  have h1 : At (rNum r 1).1 (s.data.toList ++ l) := h1
  have hl := h1.len
  rw [List.length_append, size_list] at hl
  have e : rText r = ({ (rNum r 1).1 with at' := (rNum r 1).1.at' + s.size }, (rNum r 1).1.S.extract (rNum r 1).1.at' ((rNum r 1).1.at' + s.size)) := by
    have e1' : (rNum r 1).2 = (s.size : Int) := e1
    unfold rText rTake
    have hl' : ((s.size + l.length : Nat) : Int) = ((rNum r 1).1.S.size : Int) - (rNum r 1).1.at' := hl
    have hb0 : (rNum r 1).1.bad = 0 := h1.1
    rw [if_neg (by rw [hb0]; simp), e1', if_neg (by omega)]
    rfl
  rw [e]
  refine ⟨?_, ?_⟩
  · apply ext_list
    show ((rNum r 1).1.S.extract _ _).data.toList = _
    rw [ext_take]
    have h3 : (rNum r 1).1.S.data.toList.drop (rNum r 1).1.at' = s.data.toList ++ l := h1.2.2
    rw [← List.take_drop, h3, List.take_left' (size_list s)]
  · have := h1.move (n := s.size) (by rw [List.length_append, size_list]; omega)
    rw [List.drop_left' (size_list s)] at this
    exact this
theorem rText_bad {r : Rd} (h : (rText r).1.bad = 0) : (rNum r 1).1.bad = 0 := by
  unfold rText rTake at h
  by_cases hb : (rNum r 1).1.bad = 0
  · exact hb
  · rw [if_pos hb] at h; exact h
theorem text_inv {r : Rd} {l : List UInt8} (h : At r l) (hb : (rText r).1.bad = 0) : ∃ m, (rText r).2.size < 256 ∧ l = (textB (rText r).2).data.toList ++ m ∧ At (rText r).1 m := by
  have b1 := rText_bad hb
  obtain ⟨m1, g0, g1, l1, h1⟩ := num_inv (w := 1) (by omega) (by omega) h b1
  have g0 : 0 ≤ (rNum r 1).2 := g0
  have g1 : (rNum r 1).2 < 256 ^ 1 := g1
  have l1 : l = (numB (rNum r 1).2 1).data.toList ++ m1 := l1
  have h1 : At (rNum r 1).1 m1 := h1
  have hl := h1.len
  unfold rText rTake at hb ⊢
  rw [if_neg (by simp [b1])] at hb ⊢
  split at hb
  · exact absurd (show (3 : Int) = 0 from hb) (by decide)
  · rename_i hw
    rw [if_neg hw]
    obtain ⟨n, hn⟩ := Int.eq_ofNat_of_zero_le g0
    rw [hn] at hw g1 l1 ⊢
    have hle : n ≤ m1.length := by omega
    have hx : ((rNum r 1).1.S.extract (rNum r 1).1.at' ((rNum r 1).1.at' + n)).data.toList = m1.take n := by
      have h3 : (rNum r 1).1.S.data.toList.drop (rNum r 1).1.at' = m1 := h1.2.2
      rw [ext_take, ← List.take_drop, h3]
    have hz : ((rNum r 1).1.S.extract (rNum r 1).1.at' ((rNum r 1).1.at' + n)).size = n := by rw [← size_list, hx, List.length_take]; omega
    refine ⟨m1.drop n, ?_, ?_, h1.move hle⟩
    · show ((rNum r 1).1.S.extract (rNum r 1).1.at' ((rNum r 1).1.at' + n)).size < 256
      rw [hz]; omega
    · show l = (textB ((rNum r 1).1.S.extract (rNum r 1).1.at' ((rNum r 1).1.at' + n))).data.toList ++ m1.drop n
      unfold textB
      rw [if_pos (by rw [hz]; omega), app_list, hx, hz, l1, List.append_assoc, List.take_append_drop]
theorem flag_num (b : Bool) : (flagB b).data.toList = dgs (if b then 1 else 0) 1 := by cases b <;> rfl
theorem flag_at {r : Rd} {b : Bool} {l : List UInt8} (h : At r ((flagB b).data.toList ++ l)) : (rFlag r).2 = b ∧ At (rFlag r).1 l := by
  rw [flag_num] at h
  obtain ⟨e1, h1⟩ := rNum_at (w := 1) (by omega) (by omega) (by cases b <;> simp) h
  have e1 : (rNum r 1).2 = ((if b then 1 else 0 : Nat) : Int) := e1
  have h1 : At (rNum r 1).1 l := h1
  unfold rFlag
  rw [e1]
  refine ⟨by cases b <;> rfl, ?_⟩
  rw [if_neg (by cases b <;> simp)]
  exact h1
theorem rFlag_bad {r : Rd} (h : (rFlag r).1.bad = 0) : (rNum r 1).1.bad = 0 ∧ ¬ (rNum r 1).2 > 1 := by
  unfold rFlag at h
  simp only at h
  split at h
  · exact absurd h (by decide)
  · rename_i hx
    exact ⟨h, fun hg => hx ⟨h, hg⟩⟩
theorem flag_inv {r : Rd} {l : List UInt8} (h : At r l) (hb : (rFlag r).1.bad = 0) : ∃ m, l = (flagB (rFlag r).2).data.toList ++ m ∧ At (rFlag r).1 m := by
  obtain ⟨b1, b2⟩ := rFlag_bad hb
  obtain ⟨n, m1, e1, hn, l1, h1⟩ := rNum_inv (w := 1) (by omega) (by omega) h b1
  have e1 : (rNum r 1).2 = (n : Int) := e1
  have h1 : At (rNum r 1).1 m1 := h1
  have hn : n < 2 := by rw [e1] at b2; omega
  unfold rFlag
  rw [e1, if_neg (by intro hx; exact absurd hx.2 (by omega))]
  refine ⟨m1, ?_, h1⟩
  rw [l1, flag_num]
  have : n = 0 ∨ n = 1 := by omega
  rcases this with rfl | rfl <;> rfl
end Go.Proofs.YtfacmphjplablaaDoor.Sp
namespace Go.Proofs.YtfacmphjplablaaDoor.Sp
open Go Go.Proofs.YtfacmphjplablaaDoor.Av
set_option linter.unusedVariables false
set_option maxRecDepth 100000

def tickI (n : Int) : Bool := decide (0 ≤ n ∧ n ≤ 1125899906842624)
def cleanP (p : Packet) : Packet where
  kind := p.kind
  «from» := p.from
  to := p.to
  key := p.key
  hop := if p.kind = 1 then p.hop else 0
  stamp := if p.kind = 1 then p.stamp else 0
  timeout := if p.kind = 1 then p.timeout else ⟨#[]⟩
  «until» := if p.kind = 1 ∨ p.kind = 4 then p.until else 0
  program := if p.kind = 1 then p.program else 0
  root := if p.kind = 1 then p.root else zId
  parent := if p.kind = 1 then p.parent else zKey
  code := if p.kind = 2 then p.code else 0
  value := if p.kind = 2 then p.value else 0
  more := if p.kind = 2 then p.more else false
  delay := if p.kind = 5 then p.delay else 0
def okCall (p : Packet) : Bool := decide ((dec p.timeout).2 = 0 ∧ 1 ≤ p.hop ∧ p.hop ≤ 16 ∧ 0 ≤ p.program ∧ p.program < 16) && tickI p.stamp && tickI p.until && okId p.root && okKey p.parent
def okKind (p : Packet) : Bool :=
  if p.kind = 1 then okCall p
  else if p.kind = 2 then right p.code && decide (0 ≤ p.value ∧ p.value < 2147483648 ∧ (p.more = true → p.code = 0 ∧ p.value = 0))
  else if p.kind = 3 then true
  else if p.kind = 4 then tickI p.until
  else if p.kind = 5 then decide (-1 ≤ p.delay ∧ p.delay ≤ 1125899906842624)
  else false
def okHead (p : Packet) : Bool := decide (0 ≤ p.from ∧ p.from < 64 ∧ 0 ≤ p.to ∧ p.to < 64) && okKey p.key && decide (1 ≤ p.key.att) && decide (cleanP p = p)
def okP (p : Packet) : Bool := okHead p && okKind p
def headB (p : Packet) : ByteArray := numB p.kind 1 ++ numB p.from 1 ++ numB p.to 1 ++ keyB p.key
def tailB (p : Packet) : ByteArray :=
  if p.kind = 1 then numB p.hop 1 ++ numB p.stamp 7 ++ textB p.timeout ++ numB p.until 7 ++ numB p.program 1 ++ idB p.root ++ keyB p.parent
  else if p.kind = 2 then numB p.code 1 ++ numB p.value 4 ++ flagB p.more
  else if p.kind = 4 then numB p.until 7
  else if p.kind = 5 then numB (p.delay + 1) 7
  else ⟨#[]⟩
def codeP (p : Packet) : ByteArray := sealB (headB p ++ tailB p)
def readP (r : Rd) : Rd × Packet :=
  let a := rNum r 1
  let b := rNum a.1 1
  let c := rNum b.1 1
  let k := rKey c.1
  let p : Packet := { zP with kind := a.2, «from» := b.2, to := c.2, key := k.2 }
  if a.2 = 1 then
    let h := rNum k.1 1
    let s := rNum h.1 7
    let t := rText s.1
    let u := rNum t.1 7
    let g := rNum u.1 1
    let i := rId g.1
    let q := rKey i.1
    (q.1, { p with hop := h.2, stamp := s.2, timeout := t.2, «until» := u.2, program := g.2, root := i.2, parent := q.2 })
  else if a.2 = 2 then
    let e := rNum k.1 1
    let v := rNum e.1 4
    let m := rFlag v.1
    (m.1, { p with code := e.2, value := v.2, more := m.2 })
  else if a.2 = 4 then
    let u := rNum k.1 7
    (u.1, { p with «until» := u.2 })
  else if a.2 = 5 then
    let d := rNum k.1 7
    (d.1, { p with delay := d.2 - 1 })
  else if a.2 = 3 then (k.1, p)
  else (rFail k.1 9, p)
def parseP (s : ByteArray) : Packet × Int :=
  if (openB s).2 = false then (zP, 4)
  else if (rEnd (readP ⟨(openB s).1, 0, 0⟩).1).bad ≠ 0 then (zP, (rEnd (readP ⟨(openB s).1, 0, 0⟩).1).bad)
  else if okP (readP ⟨(openB s).1, 0, 0⟩).2 = false then (zP, 2)
  else ((readP ⟨(openB s).1, 0, 0⟩).2, 0)

theorem tickI_iff (n : Int) : tickI n = true ↔ 0 ≤ n ∧ n ≤ 1125899906842624 := by unfold tickI; simp
theorem okCall_iff (p : Packet) : okCall p = true ↔ ((dec p.timeout).2 = 0 ∧ 1 ≤ p.hop ∧ p.hop ≤ 16 ∧ 0 ≤ p.program ∧ p.program < 16) ∧ (0 ≤ p.stamp ∧ p.stamp ≤ 1125899906842624) ∧ (0 ≤ p.until ∧ p.until ≤ 1125899906842624) ∧ okId p.root = true ∧ okKey p.parent = true := by
  unfold okCall
  rw [Bool.and_eq_true, Bool.and_eq_true, Bool.and_eq_true, Bool.and_eq_true, decide_eq_true_eq, tickI_iff, tickI_iff]
  simp only [and_assoc]
theorem okHead_iff (p : Packet) : okHead p = true ↔ (0 ≤ p.from ∧ p.from < 64 ∧ 0 ≤ p.to ∧ p.to < 64) ∧ okKey p.key = true ∧ 1 ≤ p.key.att ∧ cleanP p = p := by
  unfold okHead
  rw [Bool.and_eq_true, Bool.and_eq_true, Bool.and_eq_true, decide_eq_true_eq, decide_eq_true_eq, decide_eq_true_eq]
  simp only [and_assoc]
theorem dec_size {s : ByteArray} (h : (dec s).2 = 0) : s.size < 256 := by
  unfold dec at h
  by_cases h1 : s.size < 2 ∨ 9 < s.size
  · rw [if_pos h1] at h; exact absurd h (by decide)
  · omega
theorem at_open (s : ByteArray) : At ⟨s, 0, 0⟩ s.data.toList := ⟨rfl, Nat.zero_le _, by simp⟩
theorem at_nil {r : Rd} {l : List UInt8} (h : At r l) : (rEnd r).bad = 0 ↔ l = [] := by
  have hl := h.len
  unfold rEnd rLeft
  simp only [h.1, if_true]
  constructor
  · intro e
    split at e
    · exact absurd e (show ¬ (5 : Int) = 0 by decide)
    · apply List.length_eq_zero_iff.1; omega
  · rintro rfl
    rw [if_neg (by simp at hl; omega)]
theorem rEnd_bad {r : Rd} (h : (rEnd r).bad = 0) : r.bad = 0 := by
  by_cases hb : r.bad = 0
  · exact hb
  · unfold rEnd rLeft at h
    simp only [if_neg hb] at h
    rw [if_neg (by omega)] at h
    exact h
theorem kinds {p : Packet} (h : okKind p = true) : p.kind = 1 ∨ p.kind = 2 ∨ p.kind = 3 ∨ p.kind = 4 ∨ p.kind = 5 := by
  unfold okKind at h
  (repeat' split at h) <;> first | (simp at h; done) | omega
theorem clean_ext {p q : Packet} (h : q.kind = p.kind) (h1 : q.from = p.from) (h2 : q.to = p.to) (h3 : q.key = p.key) (hc : cleanP p = p) (hq : cleanP q = q)
    (k1 : p.kind = 1 → q.hop = p.hop ∧ q.stamp = p.stamp ∧ q.timeout = p.timeout ∧ q.program = p.program ∧ q.root = p.root ∧ q.parent = p.parent)
    (k4 : p.kind = 1 ∨ p.kind = 4 → q.until = p.until) (k2 : p.kind = 2 → q.code = p.code ∧ q.value = p.value ∧ q.more = p.more) (k5 : p.kind = 5 → q.delay = p.delay) : q = p := by
  rw [← hc, ← hq]
  unfold cleanP
  rw [h, h1, h2, h3]
  congr 1
  · split <;> first | rfl | exact (k1 (by assumption)).1
  · split <;> first | rfl | exact (k1 (by assumption)).2.1
  · split <;> first | rfl | exact (k1 (by assumption)).2.2.1
  · split <;> first | rfl | exact k4 (by assumption)
  · split <;> first | rfl | exact (k1 (by assumption)).2.2.2.1
  · split <;> first | rfl | exact (k1 (by assumption)).2.2.2.2.1
  · split <;> first | rfl | exact (k1 (by assumption)).2.2.2.2.2
  · split <;> first | rfl | exact (k2 (by assumption)).1
  · split <;> first | rfl | exact (k2 (by assumption)).2.1
  · split <;> first | rfl | exact (k2 (by assumption)).2.2
  · split <;> first | rfl | exact k5 (by assumption)
theorem read_code {p : Packet} {r : Rd} (h : okP p = true) (hA : At r (headB p ++ tailB p).data.toList) : (readP r).2 = p ∧ At (readP r).1 [] := by
  unfold okP at h
  rw [Bool.and_eq_true, okHead_iff] at h
  obtain ⟨⟨⟨f1, f2, t1, t2⟩, hk, ha, hcl⟩, hkind⟩ := h
  have hks := kinds hkind
  unfold headB at hA
  rw [app_list, app_list, app_list, app_list, List.append_assoc, List.append_assoc, List.append_assoc] at hA
  obtain ⟨e1, h1⟩ := num_at (w := 1) (by omega) (by omega) (by omega) (by omega) hA
  obtain ⟨e2, h2⟩ := num_at (w := 1) (by omega) (by omega) (by omega) (by omega) h1
  obtain ⟨e3, h3⟩ := num_at (w := 1) (by omega) (by omega) (by omega) (by omega) h2
  have e1 : (rNum r 1).2 = p.kind := e1
  have e2 : (rNum (rNum r 1).1 1).2 = p.from := e2
  have e3 : (rNum (rNum (rNum r 1).1 1).1 1).2 = p.to := e3
  have h3 : At (rNum (rNum (rNum r 1).1 1).1 1).1 ((keyB p.key).data.toList ++ (tailB p).data.toList) := h3
  obtain ⟨e4, h4⟩ := key_at hk h3
  unfold readP
  simp only [e1]
  unfold tailB at h4
  unfold okKind at hkind
  by_cases c1 : p.kind = 1
  · rw [if_pos c1] at h4 hkind ⊢
    obtain ⟨⟨d0, d1, d2, d3, d4⟩, ⟨s1, s2⟩, ⟨u1, u2⟩, hr, hp⟩ := (okCall_iff p).1 hkind
    rw [app_list, app_list, app_list, app_list, app_list, app_list, List.append_assoc, List.append_assoc, List.append_assoc, List.append_assoc, List.append_assoc] at h4
    obtain ⟨e5, h5⟩ := num_at (w := 1) (by omega) (by omega) (by omega) (by omega) h4
    obtain ⟨e6, h6⟩ := num_at (w := 7) (by omega) (by omega) (by omega) (by omega) h5
    obtain ⟨e7, h7⟩ := text_at (dec_size d0) h6
    obtain ⟨e8, h8⟩ := num_at (w := 7) (by omega) (by omega) (by omega) (by omega) h7
    obtain ⟨e9, h9⟩ := num_at (w := 1) (by omega) (by omega) (by omega) (by omega) h8
    obtain ⟨e10, h10⟩ := id_at hr h9
    obtain ⟨e11, h11⟩ := key_at (l := []) hp (by rw [List.append_nil]; exact h10)
    refine ⟨clean_ext rfl e2 e3 e4 hcl ?_ (fun _ => ⟨e5, e6, e7, e9, e10, e11⟩) (fun _ => e8) (fun h => absurd (c1.symm.trans h) (by decide)) (fun h => absurd (c1.symm.trans h) (by decide)), h11⟩
    unfold cleanP zP
    simp only [c1]
    congr 1
  · rw [if_neg c1] at h4 hkind ⊢
    by_cases c2 : p.kind = 2
    · rw [if_pos c2] at h4 hkind ⊢
      rw [Bool.and_eq_true, decide_eq_true_eq] at hkind
      obtain ⟨hr, v1, v2, _⟩ := hkind
      have hr : 0 ≤ p.code ∧ p.code ≤ 16 := by unfold right at hr; simpa using hr
      rw [app_list, app_list, List.append_assoc] at h4
      obtain ⟨e5, h5⟩ := num_at (w := 1) (by omega) (by omega) (by omega) (by omega) h4
      obtain ⟨e6, h6⟩ := num_at (w := 4) (by omega) (by omega) (by omega) (by omega) h5
      obtain ⟨e7, h7⟩ := flag_at (l := []) (by rw [List.append_nil]; exact h6)
      refine ⟨clean_ext rfl e2 e3 e4 hcl ?_ (fun h => absurd (c2.symm.trans h) (by decide)) (fun h => by rcases h with h | h <;> exact absurd (c2.symm.trans h) (by decide)) (fun _ => ⟨e5, e6, e7⟩) (fun h => absurd (c2.symm.trans h) (by decide)), h7⟩
      unfold cleanP zP
      simp only [c2]
      congr 1
    · rw [if_neg c2] at h4 hkind ⊢
      by_cases c4 : p.kind = 4
      · rw [if_neg (by omega), if_pos c4] at hkind
        rw [if_pos c4] at h4 ⊢
        have ht := (tickI_iff _).1 hkind
        obtain ⟨e5, h5⟩ := num_at (x := p.until) (w := 7) (l := []) (by omega) (by omega) (by omega) (by omega) (by rw [List.append_nil]; exact h4)
        refine ⟨clean_ext rfl e2 e3 e4 hcl ?_ (fun h => absurd (c4.symm.trans h) (by decide)) (fun _ => e5) (fun h => absurd (c4.symm.trans h) (by decide)) (fun h => absurd (c4.symm.trans h) (by decide)), h5⟩
        unfold cleanP zP
        simp only [c4]
        congr 1
      · rw [if_neg c4] at h4 ⊢
        by_cases c5 : p.kind = 5
        · rw [if_neg (by omega), if_neg (by omega), if_pos c5, decide_eq_true_eq] at hkind
          rw [if_pos c5] at h4 ⊢
          obtain ⟨e5, h5⟩ := num_at (x := p.delay + 1) (w := 7) (l := []) (by omega) (by omega) (by omega) (by omega) (by rw [List.append_nil]; exact h4)
          have e5 : (rNum (rKey (rNum (rNum (rNum r 1).1 1).1 1).1).1 7).2 = p.delay + 1 := e5
          refine ⟨clean_ext rfl e2 e3 e4 hcl ?_ (fun h => absurd (c5.symm.trans h) (by decide)) (fun h => by rcases h with h | h <;> exact absurd (c5.symm.trans h) (by decide)) (fun h => absurd (c5.symm.trans h) (by decide)) (fun _ => by show (rNum (rKey (rNum (rNum (rNum r 1).1 1).1 1).1).1 7).2 - 1 = p.delay; omega), h5⟩
          unfold cleanP zP
          simp only [c5]
          congr 1
        · have c3 : p.kind = 3 := by omega
          rw [if_neg c5] at h4 ⊢
          rw [if_pos c3]
          refine ⟨clean_ext rfl e2 e3 e4 hcl ?_ (fun h => absurd (c3.symm.trans h) (by decide)) (fun h => by rcases h with h | h <;> exact absurd (c3.symm.trans h) (by decide)) (fun h => absurd (c3.symm.trans h) (by decide)) (fun h => absurd (c3.symm.trans h) (by decide)), h4⟩
          unfold cleanP zP
          simp only [c3]
          congr 1
theorem parse_code {p : Packet} (h : okP p = true) : parseP (codeP p) = (p, 0) := by
  have hr := read_code (r := ⟨headB p ++ tailB p, 0, 0⟩) h (at_open _)
  unfold parseP codeP
  rw [open_seal]
  simp only
  rw [if_neg (by simp), if_neg (by simp [(at_nil hr.2).2 rfl]), hr.1, if_neg (by simp [h])]
theorem parse_inv {s : ByteArray} (h : (parseP (sealB s)).2 = 0) : okP (parseP (sealB s)).1 = true ∧ codeP (parseP (sealB s)).1 = sealB s := by
  unfold parseP at h ⊢
  rw [open_seal] at h ⊢
  simp only at h ⊢
  rw [if_neg (by simp)] at h ⊢
  by_cases hb : (rEnd (readP ⟨s, 0, 0⟩).1).bad = 0
  · rw [if_neg (by simp [hb])] at h ⊢
    by_cases hok : okP (readP ⟨s, 0, 0⟩).2 = true
    · rw [if_neg (by simp [hok])] at h ⊢
      refine ⟨hok, ?_⟩
      unfold codeP
      congr 1
      apply ext_list
      have hA := at_open s
      generalize (⟨s, 0, 0⟩ : Rd) = r at *
      have hb' := rEnd_bad hb
      have fin : ∀ m, At (readP r).1 m → m = [] := fun m hm => (at_nil hm).1 hb
      have ok2 := hok
      unfold okP at ok2
      rw [Bool.and_eq_true] at ok2
      have hks := kinds ok2.2
      have hkd : (readP r).2.kind = (rNum r 1).2 := by unfold readP; simp only; (repeat' split) <;> rfl
      have hhd : headB (readP r).2 = numB (rNum r 1).2 1 ++ numB (rNum (rNum r 1).1 1).2 1 ++ numB (rNum (rNum (rNum r 1).1 1).1 1).2 1 ++ keyB (rKey (rNum (rNum (rNum r 1).1 1).1 1).1).2 := by
        unfold headB readP; simp only; (repeat' split) <;> rfl
      have start : (rKey (rNum (rNum (rNum r 1).1 1).1 1).1).1.bad = 0 → ∃ m, s.data.toList = (headB (readP r).2).data.toList ++ m ∧ At (rKey (rNum (rNum (rNum r 1).1 1).1 1).1).1 m := fun b4 => by
        have b3 := rKey_bad b4
        have b2 := rNum_bad (w := 1) b3 (by omega) (by omega)
        have b1 := rNum_bad (w := 1) b2 (by omega) (by omega)
        obtain ⟨m1, _, _, l1, a1⟩ := num_inv (w := 1) (by omega) (by omega) hA b1
        obtain ⟨m2, _, _, l2, a2⟩ := num_inv (w := 1) (by omega) (by omega) a1 b2
        obtain ⟨m3, _, _, l3, a3⟩ := num_inv (w := 1) (by omega) (by omega) a2 b3
        obtain ⟨m4, _, l4, a4⟩ := key_inv a3 b4
        refine ⟨m4, ?_, a4⟩
        rw [hhd, l1, l2, l3, l4]
        simp only [app_list, List.append_assoc]
        rfl
      rw [app_list]
      rw [hkd] at hks
      generalize hh : headB (readP r).2 = H at start ⊢
      clear hhd hh
      unfold tailB
      rw [hkd]
      by_cases c1 : (rNum r 1).2 = 1
      · rw [if_pos c1]
        unfold readP at hb' fin ⊢
        simp only at hb' fin ⊢
        rw [if_pos c1] at hb' fin ⊢
        simp only at hb' fin ⊢
        have b10 := rKey_bad hb'
        have b9 := rId_bad b10
        have b8 := rNum_bad (w := 1) b9 (by omega) (by omega)
        have b7 := rNum_bad (w := 7) b8 (by omega) (by omega)
        have b6 := rText_bad b7
        have b6 := rNum_bad (w := 1) b6 (by omega) (by omega)
        have b5 := rNum_bad (w := 7) b6 (by omega) (by omega)
        have b4 := rNum_bad (w := 1) b5 (by omega) (by omega)
        obtain ⟨m4, l4, a4⟩ := start b4
        obtain ⟨m5, _, _, l5, a5⟩ := num_inv (w := 1) (by omega) (by omega) a4 b5
        obtain ⟨m6, _, _, l6, a6⟩ := num_inv (w := 7) (by omega) (by omega) a5 b6
        obtain ⟨m7, _, l7, a7⟩ := text_inv a6 b7
        obtain ⟨m8, _, _, l8, a8⟩ := num_inv (w := 7) (by omega) (by omega) a7 b8
        obtain ⟨m9, _, _, l9, a9⟩ := num_inv (w := 1) (by omega) (by omega) a8 b9
        obtain ⟨m10, _, l10, a10⟩ := id_inv a9 b10
        obtain ⟨m11, _, l11, a11⟩ := key_inv a10 hb'
        have := fin m11 a11
        subst this
        rw [l4, l5, l6, l7, l8, l9, l10, l11]
        simp only [app_list, List.append_assoc, List.append_nil]
        rfl
      · rw [if_neg c1]
        by_cases c2 : (rNum r 1).2 = 2
        · rw [if_pos c2]
          unfold readP at hb' fin ⊢
          simp only at hb' fin ⊢
          rw [if_neg c1, if_pos c2] at hb' fin ⊢
          simp only at hb' fin ⊢
          have b6 := (rFlag_bad hb').1
          have b6 := rNum_bad (w := 1) b6 (by omega) (by omega)
          have b5 := rNum_bad (w := 4) b6 (by omega) (by omega)
          have b4 := rNum_bad (w := 1) b5 (by omega) (by omega)
          obtain ⟨m4, l4, a4⟩ := start b4
          obtain ⟨m5, _, _, l5, a5⟩ := num_inv (w := 1) (by omega) (by omega) a4 b5
          obtain ⟨m6, _, _, l6, a6⟩ := num_inv (w := 4) (by omega) (by omega) a5 b6
          obtain ⟨m7, l7, a7⟩ := flag_inv a6 hb'
          have := fin m7 a7
          subst this
          rw [l4, l5, l6, l7]
          simp only [app_list, List.append_assoc, List.append_nil]
          rfl
        · rw [if_neg c2]
          by_cases c4 : (rNum r 1).2 = 4
          · rw [if_pos c4]
            unfold readP at hb' fin ⊢
            simp only at hb' fin ⊢
            rw [if_neg c1, if_neg c2, if_pos c4] at hb' fin ⊢
            simp only at hb' fin ⊢
            have b4 := rNum_bad (w := 7) hb' (by omega) (by omega)
            obtain ⟨m4, l4, a4⟩ := start b4
            obtain ⟨m5, _, _, l5, a5⟩ := num_inv (w := 7) (by omega) (by omega) a4 hb'
            have := fin m5 a5
            subst this
            rw [l4, l5, List.append_nil]
            rfl
          · rw [if_neg c4]
            by_cases c5 : (rNum r 1).2 = 5
            · rw [if_pos c5]
              unfold readP at hb' fin ⊢
              simp only at hb' fin ⊢
              rw [if_neg c1, if_neg c2, if_neg c4, if_pos c5] at hb' fin ⊢
              simp only at hb' fin ⊢
              have b4 := rNum_bad (w := 7) hb' (by omega) (by omega)
              obtain ⟨m4, l4, a4⟩ := start b4
              obtain ⟨m5, _, _, l5, a5⟩ := num_inv (w := 7) (by omega) (by omega) a4 hb'
              have := fin m5 a5
              subst this
              rw [l4, l5, List.append_nil, Int.sub_add_cancel]
              rfl
            · rw [if_neg c5]
              have c3 : (rNum r 1).2 = 3 := by omega
              unfold readP at hb' fin
              simp only at hb' fin
              rw [if_neg c1, if_neg c2, if_neg c4, if_neg c5, if_pos c3] at hb' fin
              simp only at hb' fin
              obtain ⟨m4, l4, a4⟩ := start hb'
              have := fin m4 a4
              subst this
              rw [l4]
    · exfalso
      rw [if_pos (by simpa using hok)] at h
      exact absurd h (by decide)
  · exfalso
    rw [if_pos hb] at h
    exact hb h
end Go.Proofs.YtfacmphjplablaaDoor.Sp
namespace Go.Proofs.YtfacmphjplablaaDoor.Cn
open Go Go.Proofs Go.Proofs.YtfacmphjplablaaDoor.Av Go.Proofs.YtfacmphjplablaaDoor.Sp
set_option linter.unusedVariables false
set_option linter.unusedSimpArgs false
set_option linter.unusedSectionVars false
set_option maxRecDepth 100000
attribute [local irreducible] Fv Fp

theorem ident_Right (d : Sp.Id) : Fv Tryd.prog 129 [.agg d.g] (.bool (okId d)) := by
  refine Fv.of_awp Tryd.func129 rfl (by kernel_rfl) rfl (Nat.le_of_ble_eq_true rfl) ?_
  repeat' (conv => whnf
           first
           | (refine And.intro (by kernel_rfl) ?_)
           | (refine And.intro ⟨by kernel_rfl, by kernel_rfl⟩ ?_)
           | (refine cond_f ?_ ?_)
           | (refine ⟨_, ⟨by decide, rfl⟩, ?_⟩)
           | (refine cond_i (fun h => ?_) (fun h => ?_)))
  all_goals (conv => whnf)
  all_goals
    refine bool_eq ?_
    rw [Bool.eq_iff_iff, okId_iff]
    simp only [decide_eq_true_eq, decide_eq_false_iff_not, ge_iff_le, Bool.false_eq_true, false_iff] at *
    omega
theorem ref07_Right (d : Sp.Id) : Fv Tryd.prog 67 [.agg d.g] (.bool (okId d)) := by
  refine Fv.of_awp Tryd.func67 rfl (by kernel_rfl) rfl (Nat.le_of_ble_eq_true rfl) ?_
  repeat' (conv => whnf
           first
           | (refine And.intro (by kernel_rfl) ?_)
           | (refine And.intro ⟨by kernel_rfl, by kernel_rfl⟩ ?_)
           | (refine cond_f ?_ ?_)
           | (refine ⟨_, ⟨by decide, rfl⟩, ?_⟩)
           | (refine cond_i (fun h => ?_) (fun h => ?_)))
  all_goals (conv => whnf)
  all_goals
    refine bool_eq ?_
    rw [Bool.eq_iff_iff, okId_iff]
    simp only [decide_eq_true_eq, decide_eq_false_iff_not, ge_iff_le, Bool.false_eq_true, false_iff] at *
    omega
theorem ident_Key (k : Key) : Fv Tryd.prog 128 [.agg k.g] (.bool (okKey k)) := by
  have n1 := ident_Right k.id
  unfold okKey
  generalize okId k.id = b at *
  refine Fv.of_awp Tryd.func128 rfl (by kernel_rfl) rfl (Nat.le_of_ble_eq_true rfl) ?_
  cases b
  · skip
    repeat' (conv => whnf
             first
             | (refine And.intro (by kernel_rfl) ?_)
             | (refine And.intro ⟨by kernel_rfl, by kernel_rfl⟩ ?_)
             | (refine Or.inl ⟨_, n1, ?_⟩)
             | (refine ⟨_, n1, ?_⟩)
             | (refine cond_f ?_ ?_)
             | (refine ⟨_, ⟨by decide, rfl⟩, ?_⟩)
             | (refine cond_i (fun h => ?_) (fun h => ?_)))
    all_goals (conv => whnf)
    all_goals rfl
  · skip
    repeat' (conv => whnf
             first
             | (refine And.intro (by kernel_rfl) ?_)
             | (refine And.intro ⟨by kernel_rfl, by kernel_rfl⟩ ?_)
             | (refine Or.inl ⟨_, n1, ?_⟩)
             | (refine ⟨_, n1, ?_⟩)
             | (refine cond_f ?_ ?_)
             | (refine ⟨_, ⟨by decide, rfl⟩, ?_⟩)
             | (refine cond_i (fun h => ?_) (fun h => ?_)))
    all_goals (conv => whnf)
    all_goals
      refine bool_eq ?_
      rw [Bool.eq_iff_iff, Bool.and_eq_true]
      simp only [decide_eq_true_eq, decide_eq_false_iff_not, ge_iff_le, Bool.false_eq_true, false_iff, true_and] at *
      omega
theorem ref07_Key (k : Key) : Fv Tryd.prog 66 [.agg k.g] (.bool (okKey k)) := by
  have n1 := ref07_Right k.id
  unfold okKey
  generalize okId k.id = b at *
  refine Fv.of_awp Tryd.func66 rfl (by kernel_rfl) rfl (Nat.le_of_ble_eq_true rfl) ?_
  cases b
  · skip
    repeat' (conv => whnf
             first
             | (refine And.intro (by kernel_rfl) ?_)
             | (refine And.intro ⟨by kernel_rfl, by kernel_rfl⟩ ?_)
             | (refine Or.inl ⟨_, n1, ?_⟩)
             | (refine ⟨_, n1, ?_⟩)
             | (refine cond_f ?_ ?_)
             | (refine ⟨_, ⟨by decide, rfl⟩, ?_⟩)
             | (refine cond_i (fun h => ?_) (fun h => ?_)))
    all_goals (conv => whnf)
    all_goals rfl
  · skip
    repeat' (conv => whnf
             first
             | (refine And.intro (by kernel_rfl) ?_)
             | (refine And.intro ⟨by kernel_rfl, by kernel_rfl⟩ ?_)
             | (refine Or.inl ⟨_, n1, ?_⟩)
             | (refine ⟨_, n1, ?_⟩)
             | (refine cond_f ?_ ?_)
             | (refine ⟨_, ⟨by decide, rfl⟩, ?_⟩)
             | (refine cond_i (fun h => ?_) (fun h => ?_)))
    all_goals (conv => whnf)
    all_goals
      refine bool_eq ?_
      rw [Bool.eq_iff_iff, Bool.and_eq_true]
      simp only [decide_eq_true_eq, decide_eq_false_iff_not, ge_iff_le, Bool.false_eq_true, false_iff, true_and] at *
      omega
theorem numB_le (n w : Int) : (numB n w).size ≤ 7 := by
  unfold numB
  split
  · rename_i h
    have h : 1 ≤ w ∧ w ≤ 7 ∧ 0 ≤ n ∧ n < 256 ^ w.toNat := by unfold okN at h; simpa using h
    rw [strL_size, dgs_len]; omega
  · rw [strL_size]; simp
theorem ident_Code (d : Sp.Id) : Fv Tryd.prog 100 [.agg d.g] (.str (idB d)) := by
  have n1 := bytes_Num d.node 1
  have n2 := bytes_Num d.inc 2
  have n3 := bytes_Num d.seq 3
  have s1 := numB_le d.node 1
  have s2 := numB_le d.inc 2
  have s3 := numB_le d.seq 3
  unfold idB
  generalize numB d.node 1 = x at *
  generalize numB d.inc 2 = y at *
  generalize numB d.seq 3 = z at *
  have z1 : ((x.size + y.size : Nat) : Int) ≤ 9223372036854775807 := by omega
  have z2 : (((x ++ y).size + z.size : Nat) : Int) ≤ 9223372036854775807 := by rw [ByteArray.size_append]; omega
  refine Fv.of_awp Tryd.func100 rfl (by kernel_rfl) rfl (Nat.le_of_ble_eq_true rfl) ?_
  repeat' (conv => whnf
           first
           | (refine And.intro (by kernel_rfl) ?_)
           | (refine And.intro ⟨by kernel_rfl, by kernel_rfl⟩ ?_)
           | (refine Or.inl ⟨_, n1, ?_⟩)
           | (refine ⟨_, n1, ?_⟩)
           | (refine Or.inl ⟨_, n2, ?_⟩)
           | (refine ⟨_, n2, ?_⟩)
           | (refine Or.inl ⟨_, n3, ?_⟩)
           | (refine ⟨_, n3, ?_⟩)
           | (refine ⟨z1, ?_⟩)
           | (refine ⟨z2, ?_⟩)
           | (refine cond_f ?_ ?_)
           | (refine ⟨_, ⟨by decide, rfl⟩, ?_⟩)
           | (refine cond_i (fun h => ?_) (fun h => ?_)))
  all_goals (conv => whnf)
  all_goals rfl
theorem idB_le (d : Sp.Id) : (idB d).size ≤ 21 := by
  have s1 := numB_le d.node 1
  have s2 := numB_le d.inc 2
  have s3 := numB_le d.seq 3
  unfold idB; simp only [ByteArray.size_append]; omega
theorem keyB_le (k : Key) : (keyB k).size ≤ 28 := by
  have s1 := idB_le k.id
  have s2 := numB_le k.att 1
  unfold keyB; simp only [ByteArray.size_append]; omega
theorem ident_KeyCode (k : Key) : Fv Tryd.prog 98 [.agg k.g] (.str (keyB k)) := by
  have n1 := ident_Code k.id
  have n2 := bytes_Num k.att 1
  have s1 := idB_le k.id
  have s2 := numB_le k.att 1
  unfold keyB
  generalize idB k.id = x at *
  generalize numB k.att 1 = y at *
  refine Fv.of_awp Tryd.func98 rfl (by kernel_rfl) rfl (Nat.le_of_ble_eq_true rfl) ?_
  repeat' (conv => whnf
           first
           | (refine And.intro (by kernel_rfl) ?_)
           | (refine And.intro ⟨by kernel_rfl, by kernel_rfl⟩ ?_)
           | (refine Or.inl ⟨_, n1, ?_⟩)
           | (refine ⟨_, n1, ?_⟩)
           | (refine Or.inl ⟨_, n2, ?_⟩)
           | (refine ⟨_, n2, ?_⟩)
           | (refine ⟨by omega, ?_⟩)
           | (refine cond_f ?_ ?_)
           | (refine ⟨_, ⟨by decide, rfl⟩, ?_⟩)
           | (refine cond_i (fun h => ?_) (fun h => ?_)))
  all_goals (conv => whnf)
  all_goals rfl
theorem read_of (r a b c f : Rd) (x y z : Int) (ok : Bool) (n1 : Fp Tryd.prog 90 [.ptr 0 0, .int .i64 1] [r.gp] [] (.int .i64 x, [some a.gp], []))
    (n2 : Fp Tryd.prog 90 [.ptr 0 0, .int .i64 2] [a.gp] [] (.int .i64 y, [some b.gp], []))
    (n3 : Fp Tryd.prog 90 [.ptr 0 0, .int .i64 3] [b.gp] [] (.int .i64 z, [some c.gp], []))
    (n4 : Fv Tryd.prog 129 [.agg [.int .i64 x, .int .i64 y, .int .i64 z]] (.bool ok))
    (n5 : Fp Tryd.prog 95 [.ptr 0 0, .int .i64 2] [c.gp] [] (.tup [], [some f.gp], [])) :
    Fp Tryd.prog 93 [.ptr 0 0] [r.gp] [] (.agg (bif ok then [.int .i64 x, .int .i64 y, .int .i64 z] else zId.g), [some (bif ok then c.gp else f.gp)], []) := by
  refine Fp.of_awp Tryd.func93 rfl (by kernel_rfl) (Nat.le_of_ble_eq_true rfl) ?_
  cases ok
  · skip
    repeat' (conv => whnf
             first
             | (refine And.intro (by kernel_rfl) ?_)
             | (refine And.intro ⟨by kernel_rfl, by kernel_rfl⟩ ?_)
             | (refine Or.inr ⟨_, n1, ?_⟩)
             | (refine Or.inr ⟨_, n2, ?_⟩)
             | (refine Or.inr ⟨_, n3, ?_⟩)
             | (refine Or.inl ⟨_, n4, ?_⟩)
             | (refine ⟨_, n4, ?_⟩)
             | (refine Or.inr ⟨_, n5, ?_⟩)
             | (refine cond_f ?_ ?_)
             | (refine ⟨_, ⟨by decide, rfl⟩, ?_⟩)
             | (refine cond_i (fun h => ?_) (fun h => ?_)))
    all_goals (conv => whnf)
    all_goals rfl
  · skip
    repeat' (conv => whnf
             first
             | (refine And.intro (by kernel_rfl) ?_)
             | (refine And.intro ⟨by kernel_rfl, by kernel_rfl⟩ ?_)
             | (refine Or.inr ⟨_, n1, ?_⟩)
             | (refine Or.inr ⟨_, n2, ?_⟩)
             | (refine Or.inr ⟨_, n3, ?_⟩)
             | (refine Or.inl ⟨_, n4, ?_⟩)
             | (refine ⟨_, n4, ?_⟩)
             | (refine Or.inr ⟨_, n5, ?_⟩)
             | (refine cond_f ?_ ?_)
             | (refine ⟨_, ⟨by decide, rfl⟩, ?_⟩)
             | (refine cond_i (fun h => ?_) (fun h => ?_)))
    all_goals (conv => whnf)
    all_goals rfl
theorem ident_Read (r : Rd) (h : r.ok) : Fp Tryd.prog 93 [.ptr 0 0] [r.gp] [] (.agg (rId r).2.g, [some (rId r).1.gp], []) := by
  have h1 := rNum_ok r 1 h
  have h2 := rNum_ok _ 2 h1
  have := read_of r _ _ _ _ _ _ _ (okId ⟨(rNum r 1).2, (rNum (rNum r 1).1 2).2, (rNum (rNum (rNum r 1).1 2).1 3).2⟩) (pr_Num r 1 h) (pr_Num _ 2 h1) (pr_Num _ 3 h2) (ident_Right ⟨_, _, _⟩) (pr_Fail _ 2)
  unfold rId
  simp only
  cases hk : okId ⟨(rNum r 1).2, (rNum (rNum r 1).1 2).2, (rNum (rNum (rNum r 1).1 2).1 3).2⟩ with
  | true => rw [hk] at this; exact this
  | false => rw [hk] at this; exact this
theorem readKey_of (r a b f : Rd) (d : Sp.Id) (x : Int) (ok : Bool) (n1 : Fp Tryd.prog 93 [.ptr 0 0] [r.gp] [] (.agg d.g, [some a.gp], []))
    (n2 : Fp Tryd.prog 90 [.ptr 0 0, .int .i64 1] [a.gp] [] (.int .i64 x, [some b.gp], []))
    (n3 : Fv Tryd.prog 128 [.agg (⟨d, x⟩ : Key).g] (.bool ok))
    (n4 : Fp Tryd.prog 95 [.ptr 0 0, .int .i64 2] [b.gp] [] (.tup [], [some f.gp], [])) :
    Fp Tryd.prog 91 [.ptr 0 0] [r.gp] [] (.agg (bif ok then (⟨d, x⟩ : Key).g else zKey.g), [some (bif ok then b.gp else f.gp)], []) := by
  refine Fp.of_awp Tryd.func91 rfl (by kernel_rfl) (Nat.le_of_ble_eq_true rfl) ?_
  cases ok
  · skip
    repeat' (conv => whnf
             first
             | (refine And.intro (by kernel_rfl) ?_)
             | (refine And.intro ⟨by kernel_rfl, by kernel_rfl⟩ ?_)
             | (refine Or.inr ⟨_, n1, ?_⟩)
             | (refine Or.inr ⟨_, n2, ?_⟩)
             | (refine Or.inl ⟨_, n3, ?_⟩)
             | (refine ⟨_, n3, ?_⟩)
             | (refine Or.inr ⟨_, n4, ?_⟩)
             | (refine cond_f ?_ ?_)
             | (refine ⟨_, ⟨by decide, rfl⟩, ?_⟩)
             | (refine cond_i (fun h => ?_) (fun h => ?_)))
    all_goals (conv => whnf)
    all_goals rfl
  · skip
    repeat' (conv => whnf
             first
             | (refine And.intro (by kernel_rfl) ?_)
             | (refine And.intro ⟨by kernel_rfl, by kernel_rfl⟩ ?_)
             | (refine Or.inr ⟨_, n1, ?_⟩)
             | (refine Or.inr ⟨_, n2, ?_⟩)
             | (refine Or.inl ⟨_, n3, ?_⟩)
             | (refine ⟨_, n3, ?_⟩)
             | (refine Or.inr ⟨_, n4, ?_⟩)
             | (refine cond_f ?_ ?_)
             | (refine ⟨_, ⟨by decide, rfl⟩, ?_⟩)
             | (refine cond_i (fun h => ?_) (fun h => ?_)))
    all_goals (conv => whnf)
    all_goals rfl
theorem ident_ReadKey (r : Rd) (h : r.ok) : Fp Tryd.prog 91 [.ptr 0 0] [r.gp] [] (.agg (rKey r).2.g, [some (rKey r).1.gp], []) := by
  have h1 := rId_ok r h
  have := readKey_of r _ _ _ _ _ (okKey ⟨(rId r).2, (rNum (rId r).1 1).2⟩) (ident_Read r h) (pr_Num _ 1 h1) (ident_Key ⟨_, _⟩) (pr_Fail _ 2)
  unfold rKey
  simp only
  cases hk : okKey ⟨(rId r).2, (rNum (rId r).1 1).2⟩ with
  | true => rw [hk] at this; exact this
  | false => rw [hk] at this; exact this
end Go.Proofs.YtfacmphjplablaaDoor.Cn
namespace Go.Proofs.YtfacmphjplablaaDoor.Cn
open Go Go.Proofs Go.Proofs.YtfacmphjplablaaDoor.Av Go.Proofs.YtfacmphjplablaaDoor.Sp
set_option linter.unusedVariables false
set_option linter.unusedSimpArgs false
set_option linter.unusedSectionVars false
set_option maxRecDepth 100000
attribute [local irreducible] Fv Fp

def bareP (p : Packet) : Packet := { zP with kind := p.kind, «from» := p.from, to := p.to, key := p.key }
theorem packet_bare (p : Packet) : Fv Tryd.prog 131 [.agg p.g] (.agg (bareP p).g) := by
  refine Fv.of_awp Tryd.func131 rfl (by kernel_rfl) rfl (Nat.le_of_ble_eq_true rfl) ?_
  repeat' (conv => whnf
           first
           | (refine And.intro (by kernel_rfl) ?_)
           | (refine And.intro ⟨by kernel_rfl, by kernel_rfl⟩ ?_)
           | (refine cond_f ?_ ?_)
           | (refine ⟨_, ⟨by decide, rfl⟩, ?_⟩)
           | (refine cond_i (fun h => ?_) (fun h => ?_)))
  all_goals (conv => whnf)
  all_goals rfl
theorem packet_node (n : Int) : Fv Tryd.prog 103 [.int .i64 n] (.bool (decide (0 ≤ n ∧ n < 64))) := by
  refine Fv.of_awp Tryd.func103 rfl (by kernel_rfl) rfl (Nat.le_of_ble_eq_true rfl) ?_
  repeat' (conv => whnf
           first
           | (refine And.intro (by kernel_rfl) ?_)
           | (refine And.intro ⟨by kernel_rfl, by kernel_rfl⟩ ?_)
           | (refine cond_f ?_ ?_)
           | (refine ⟨_, ⟨by decide, rfl⟩, ?_⟩)
           | (refine cond_i (fun h => ?_) (fun h => ?_)))
  all_goals (conv => whnf)
  all_goals
    refine bool_eq ?_
    rw [Bool.eq_iff_iff]
    simp only [decide_eq_true_eq, decide_eq_false_iff_not, ge_iff_le, Bool.false_eq_true, false_iff] at *
    omega
theorem packet_tick (n : Int) : Fv Tryd.prog 108 [.int .i64 n] (.bool (tickI n)) := by
  refine Fv.of_awp Tryd.func108 rfl (by kernel_rfl) rfl (Nat.le_of_ble_eq_true rfl) ?_
  repeat' (conv => whnf
           first
           | (refine And.intro (by kernel_rfl) ?_)
           | (refine And.intro ⟨by kernel_rfl, by kernel_rfl⟩ ?_)
           | (refine cond_f ?_ ?_)
           | (refine ⟨_, ⟨by decide, rfl⟩, ?_⟩)
           | (refine cond_i (fun h => ?_) (fun h => ?_)))
  all_goals (conv => whnf)
  all_goals
    refine bool_eq ?_
    rw [Bool.eq_iff_iff, tickI_iff]
    simp only [decide_eq_true_eq, decide_eq_false_iff_not, ge_iff_le, Bool.false_eq_true, false_iff] at *
    omega
theorem packet_attempt (k : Key) : Fv Tryd.prog 104 [.agg k.g] (.bool (okKey k && decide (1 ≤ k.att))) := by
  have n1 := ident_Key k
  generalize okKey k = b at *
  refine Fv.of_awp Tryd.func104 rfl (by kernel_rfl) rfl (Nat.le_of_ble_eq_true rfl) ?_
  cases b
  · skip
    repeat' (conv => whnf
             first
             | (refine And.intro (by kernel_rfl) ?_)
             | (refine And.intro ⟨by kernel_rfl, by kernel_rfl⟩ ?_)
             | (refine Or.inl ⟨_, n1, ?_⟩)
             | (refine ⟨_, n1, ?_⟩)
             | (refine cond_f ?_ ?_)
             | (refine ⟨_, ⟨by decide, rfl⟩, ?_⟩)
             | (refine cond_i (fun h => ?_) (fun h => ?_)))
    all_goals (conv => whnf)
    all_goals rfl
  · skip
    repeat' (conv => whnf
             first
             | (refine And.intro (by kernel_rfl) ?_)
             | (refine And.intro ⟨by kernel_rfl, by kernel_rfl⟩ ?_)
             | (refine Or.inl ⟨_, n1, ?_⟩)
             | (refine ⟨_, n1, ?_⟩)
             | (refine cond_f ?_ ?_)
             | (refine ⟨_, ⟨by decide, rfl⟩, ?_⟩)
             | (refine cond_i (fun h => ?_) (fun h => ?_)))
    all_goals (conv => whnf)
    all_goals rfl
set_option maxHeartbeats 4000000 in
theorem packet_Clean (p : Packet) : Fv Tryd.prog 105 [.agg p.g] (.agg (cleanP p).g) := by
  have n1 := packet_bare p
  refine Fv.of_awp Tryd.func105 rfl (by kernel_rfl) rfl (Nat.le_of_ble_eq_true rfl) ?_
  by_cases c1 : p.kind = 1
  · have b1 : (p.kind == 1) = true := by simp [c1]
    repeat' (conv => whnf
             first
             | (refine And.intro (by kernel_rfl) ?_)
             | (refine And.intro ⟨by kernel_rfl, by kernel_rfl⟩ ?_)
             | (refine Or.inl ⟨_, n1, ?_⟩)
             | (refine ⟨_, n1, ?_⟩)
             | (refine cond_1 b1 ?_)
             | (refine cond_f ?_ ?_)
             | (refine ⟨_, ⟨by decide, rfl⟩, ?_⟩)
             | (refine cond_i (fun h => ?_) (fun h => ?_)))
    all_goals (conv => whnf)
    all_goals
      unfold cleanP bareP zP zKey zId
      simp only [c1]
      rfl
  · have b1 : (p.kind == 1) = false := by simp [c1]
    by_cases c2 : p.kind = 2
    · have b2 : (p.kind == 2) = true := by simp [c2]
      repeat' (conv => whnf
               first
               | (refine And.intro (by kernel_rfl) ?_)
               | (refine And.intro ⟨by kernel_rfl, by kernel_rfl⟩ ?_)
               | (refine Or.inl ⟨_, n1, ?_⟩)
               | (refine ⟨_, n1, ?_⟩)
               | (refine cond_0 b1 ?_)
               | (refine cond_1 b2 ?_)
               | (refine cond_f ?_ ?_)
               | (refine ⟨_, ⟨by decide, rfl⟩, ?_⟩)
               | (refine cond_i (fun h => ?_) (fun h => ?_)))
      all_goals (conv => whnf)
      all_goals
        unfold cleanP bareP zP zKey zId
        simp only [c2]
        rfl
    · have b2 : (p.kind == 2) = false := by simp [c2]
      by_cases c4 : p.kind = 4
      · have b4 : (p.kind == 4) = true := by simp [c4]
        repeat' (conv => whnf
                 first
                 | (refine And.intro (by kernel_rfl) ?_)
                 | (refine And.intro ⟨by kernel_rfl, by kernel_rfl⟩ ?_)
                 | (refine Or.inl ⟨_, n1, ?_⟩)
                 | (refine ⟨_, n1, ?_⟩)
                 | (refine cond_0 b1 ?_)
                 | (refine cond_0 b2 ?_)
                 | (refine cond_1 b4 ?_)
                 | (refine cond_f ?_ ?_)
                 | (refine ⟨_, ⟨by decide, rfl⟩, ?_⟩)
                 | (refine cond_i (fun h => ?_) (fun h => ?_)))
        all_goals (conv => whnf)
        all_goals
          unfold cleanP bareP zP zKey zId
          simp only [c4]
          rfl
      · have b4 : (p.kind == 4) = false := by simp [c4]
        by_cases c5 : p.kind = 5
        · have b5 : (p.kind == 5) = true := by simp [c5]
          repeat' (conv => whnf
                   first
                   | (refine And.intro (by kernel_rfl) ?_)
                   | (refine And.intro ⟨by kernel_rfl, by kernel_rfl⟩ ?_)
                   | (refine Or.inl ⟨_, n1, ?_⟩)
                   | (refine ⟨_, n1, ?_⟩)
                   | (refine cond_0 b1 ?_)
                   | (refine cond_0 b2 ?_)
                   | (refine cond_0 b4 ?_)
                   | (refine cond_1 b5 ?_)
                   | (refine cond_f ?_ ?_)
                   | (refine ⟨_, ⟨by decide, rfl⟩, ?_⟩)
                   | (refine cond_i (fun h => ?_) (fun h => ?_)))
          all_goals (conv => whnf)
          all_goals
            unfold cleanP bareP zP zKey zId
            simp only [c5]
            rfl
        · have b5 : (p.kind == 5) = false := by simp [c5]
          have o : ¬ (p.kind = 1 ∨ p.kind = 4) := by omega
          repeat' (conv => whnf
                   first
                   | (refine And.intro (by kernel_rfl) ?_)
                   | (refine And.intro ⟨by kernel_rfl, by kernel_rfl⟩ ?_)
                   | (refine Or.inl ⟨_, n1, ?_⟩)
                   | (refine ⟨_, n1, ?_⟩)
                   | (refine cond_0 b1 ?_)
                   | (refine cond_0 b2 ?_)
                   | (refine cond_0 b4 ?_)
                   | (refine cond_0 b5 ?_)
                   | (refine cond_f ?_ ?_)
                   | (refine ⟨_, ⟨by decide, rfl⟩, ?_⟩)
                   | (refine cond_i (fun h => ?_) (fun h => ?_)))
          all_goals (conv => whnf)
          all_goals
            unfold cleanP bareP zP zKey zId
            simp only [if_neg c1, if_neg c2, if_neg c5, if_neg o]
            rfl
end Go.Proofs.YtfacmphjplablaaDoor.Cn
namespace Go.Proofs.YtfacmphjplablaaDoor.Cn
open Go Go.Proofs Go.Proofs.YtfacmphjplablaaDoor.Av Go.Proofs.YtfacmphjplablaaDoor.Sp
set_option linter.unusedVariables false
set_option linter.unusedSimpArgs false
set_option maxRecDepth 100000


theorem ticks_Clamp (a : Int) : Fv Tryd.prog 42 [.int .i64 a] (.int .i64 (clamp a)) := by
  refine Fv.of_awp Tryd.func42 rfl (by kernel_rfl) rfl (Nat.le_of_ble_eq_true rfl) ?_
  repeat' (conv => whnf
           first
           | (refine And.intro (by kernel_rfl) ?_)
           | (refine And.intro ⟨by kernel_rfl, by kernel_rfl⟩ ?_)
           | (refine cond_f ?_ ?_)
           | (refine ⟨_, ⟨by decide, rfl⟩, ?_⟩)
           | (refine cond_i (fun h => ?_) (fun h => ?_)))
  all_goals (conv => whnf)
  refine int_eq ?_
  unfold clamp
  (repeat' split) <;> omega
theorem ref01_Clamp (a : Int) : Fv Tryd.prog 16 [.int .i64 a] (.int .i64 (clamp a)) := by
  refine Fv.of_awp Tryd.func16 rfl (by kernel_rfl) rfl (Nat.le_of_ble_eq_true rfl) ?_
  repeat' (conv => whnf
           first
           | (refine And.intro (by kernel_rfl) ?_)
           | (refine And.intro ⟨by kernel_rfl, by kernel_rfl⟩ ?_)
           | (refine cond_f ?_ ?_)
           | (refine ⟨_, ⟨by decide, rfl⟩, ?_⟩)
           | (refine cond_i (fun h => ?_) (fun h => ?_)))
  all_goals (conv => whnf)
  all_goals
    refine int_eq ?_
    simp only [decide_eq_true_eq, decide_eq_false_iff_not] at *
    unfold clamp
    (repeat' split) <;> omega
theorem ticks_Add (a b : Int) : Fv Tryd.prog 83 [.int .i64 a, .int .i64 b] (.int .i64 (add a b)) := by
  refine Fv.of_awp Tryd.func83 rfl (by kernel_rfl) rfl (Nat.le_of_ble_eq_true rfl) ?_
  repeat' (conv => whnf
           first
           | (refine And.intro (by kernel_rfl) ?_)
           | (refine And.intro ⟨by kernel_rfl, by kernel_rfl⟩ ?_)
           | (refine Or.inl ⟨_, ticks_Clamp _, ?_⟩)
           | (refine ⟨_, ticks_Clamp _, ?_⟩)
           | (refine cond_f ?_ ?_)
           | (refine ⟨_, ⟨by decide, rfl⟩, ?_⟩)
           | (refine cond_i (fun h => ?_) (fun h => ?_)))
  all_goals (conv => whnf)
  refine int_eq ?_
  have h1 := clamp_bd a
  have h2 := clamp_bd b
  unfold add
  rw [wrap_i64 (by omega)]
theorem ref01_Add (a b : Int) : Fv Tryd.prog 136 [.int .i64 a, .int .i64 b] (.int .i64 (add a b)) := by
  refine Fv.of_awp Tryd.func136 rfl (by kernel_rfl) rfl (Nat.le_of_ble_eq_true rfl) ?_
  repeat' (conv => whnf
           first
           | (refine And.intro (by kernel_rfl) ?_)
           | (refine And.intro ⟨by kernel_rfl, by kernel_rfl⟩ ?_)
           | (refine Or.inl ⟨_, ref01_Clamp _, ?_⟩)
           | (refine ⟨_, ref01_Clamp _, ?_⟩)
           | (refine cond_f ?_ ?_)
           | (refine ⟨_, ⟨by decide, rfl⟩, ?_⟩)
           | (refine cond_i (fun h => ?_) (fun h => ?_)))
  all_goals (conv => whnf)
  all_goals
    refine int_eq ?_
    have h1 := clamp_bd a
    have h2 := clamp_bd b
    unfold add
    generalize clamp a = x at *
    generalize clamp b = y at *
    simp only [decide_eq_true_eq, decide_eq_false_iff_not] at *
    rw [wrap_i64 (by omega)] at *
    unfold clamp
    (repeat' split) <;> omega
theorem ticks_Sub (a b : Int) : Fv Tryd.prog 112 [.int .i64 a, .int .i64 b] (.int .i64 (sub a b)) := by
  refine Fv.of_awp Tryd.func112 rfl (by kernel_rfl) rfl (Nat.le_of_ble_eq_true rfl) ?_
  repeat' (conv => whnf
           first
           | (refine And.intro (by kernel_rfl) ?_)
           | (refine And.intro ⟨by kernel_rfl, by kernel_rfl⟩ ?_)
           | (refine Or.inl ⟨_, ticks_Clamp _, ?_⟩)
           | (refine ⟨_, ticks_Clamp _, ?_⟩)
           | (refine cond_f ?_ ?_)
           | (refine ⟨_, ⟨by decide, rfl⟩, ?_⟩)
           | (refine cond_i (fun h => ?_) (fun h => ?_)))
  all_goals (conv => whnf)
  refine int_eq ?_
  have h1 := clamp_bd a
  have h2 := clamp_bd b
  unfold sub
  rw [wrap_i64 (by omega)]
  (repeat' split) <;> omega
theorem ref01_Sub (a b : Int) : Fv Tryd.prog 30 [.int .i64 a, .int .i64 b] (.int .i64 (sub a b)) := by
  refine Fv.of_awp Tryd.func30 rfl (by kernel_rfl) rfl (Nat.le_of_ble_eq_true rfl) ?_
  repeat' (conv => whnf
           first
           | (refine And.intro (by kernel_rfl) ?_)
           | (refine And.intro ⟨by kernel_rfl, by kernel_rfl⟩ ?_)
           | (refine Or.inl ⟨_, ref01_Clamp _, ?_⟩)
           | (refine ⟨_, ref01_Clamp _, ?_⟩)
           | (refine cond_f ?_ ?_)
           | (refine ⟨_, ⟨by decide, rfl⟩, ?_⟩)
           | (refine cond_i (fun h => ?_) (fun h => ?_)))
  all_goals (conv => whnf)
  all_goals
    refine int_eq ?_
    have h1 := clamp_bd a
    have h2 := clamp_bd b
    simp only [decide_eq_true_eq, decide_eq_false_iff_not] at *
    unfold sub
    try rw [wrap_i64 (by omega)]
    (repeat' split) <;> omega
theorem code_names : Fv Tryd.prog 132 [] (.agg (names.map G.str)) := by
  refine Fv.of_awp Tryd.func132 rfl (by kernel_rfl) rfl (Nat.le_of_ble_eq_true rfl) ?_
  conv => whnf
  rfl
theorem code_Right (a : Int) : Fv Tryd.prog 107 [.int .i64 a] (.bool (right a)) := by
  refine Fv.of_awp Tryd.func107 rfl (by kernel_rfl) rfl (Nat.le_of_ble_eq_true rfl) ?_
  repeat' (conv => whnf
           first
           | (refine And.intro (by kernel_rfl) ?_)
           | (refine And.intro ⟨by kernel_rfl, by kernel_rfl⟩ ?_)
           | (refine Or.inl ⟨_, code_names, ?_⟩)
           | (refine ⟨_, code_names, ?_⟩)
           | (refine cond_f ?_ ?_)
           | (refine ⟨_, ⟨by decide, rfl⟩, ?_⟩)
           | (refine cond_i (fun h => ?_) (fun h => ?_)))
  all_goals (conv => whnf)
  all_goals
    refine bool_eq ?_
    unfold right
    simp only [decide_eq_true_eq, decide_eq_false_iff_not, ge_iff_le] at *
    rw [Bool.eq_iff_iff]
    simp
    omega
theorem ref05_Right (a : Int) : Fv Tryd.prog 115 [.int .i64 a] (.bool (right a)) := by
  refine Fv.of_awp Tryd.func115 rfl (by kernel_rfl) rfl (Nat.le_of_ble_eq_true rfl) ?_
  repeat' (conv => whnf
           first
           | (refine And.intro (by kernel_rfl) ?_)
           | (refine And.intro ⟨by kernel_rfl, by kernel_rfl⟩ ?_)
           | (refine cond_f ?_ ?_)
           | (refine ⟨_, ⟨by decide, rfl⟩, ?_⟩)
           | (refine cond_i (fun h => ?_) (fun h => ?_)))
  all_goals (conv => whnf)
  all_goals
    refine bool_eq ?_
    unfold right
    simp only [decide_eq_true_eq, decide_eq_false_iff_not, ge_iff_le] at *
    rw [Bool.eq_iff_iff]
    simp
    omega
theorem right_iff (a : Int) : right a = true ↔ 0 ≤ a ∧ a ≤ 16 := by unfold right; simp
theorem clean_right {a : Int} (h : right a = true) : clean a = a := by unfold clean; rw [if_pos ((right_iff a).1 h)]
theorem clean_wrong {a : Int} (h : right a = false) : clean a = 2 := by unfold clean; rw [if_neg (fun h' => by rw [(right_iff a).2 h'] at h; cases h)]
theorem code_Clean (a : Int) : Fv Tryd.prog 73 [.int .i64 a] (.int .i64 (clean a)) := by
  refine Fv.of_awp Tryd.func73 rfl (by kernel_rfl) rfl (Nat.le_of_ble_eq_true rfl) ?_
  repeat' (conv => whnf
           first
           | (refine And.intro (by kernel_rfl) ?_)
           | (refine And.intro ⟨by kernel_rfl, by kernel_rfl⟩ ?_)
           | (refine Or.inl ⟨_, code_Right _, ?_⟩)
           | (refine ⟨_, code_Right _, ?_⟩)
           | (refine cond_f ?_ ?_)
           | (refine ⟨_, ⟨by decide, rfl⟩, ?_⟩)
           | (refine cond_i (fun h => ?_) (fun h => ?_)))
  all_goals (conv => whnf)
  all_goals
    refine int_eq ?_
    simp only [Bool.not_eq_true', Bool.not_eq_false'] at *
    first | exact (clean_right ‹_›).symm | exact (clean_wrong ‹_›).symm
theorem ref05_Clean (a : Int) : Fv Tryd.prog 76 [.int .i64 a] (.int .i64 (clean a)) := by
  refine Fv.of_awp Tryd.func76 rfl (by kernel_rfl) rfl (Nat.le_of_ble_eq_true rfl) ?_
  repeat' (conv => whnf
           first
           | (refine And.intro (by kernel_rfl) ?_)
           | (refine And.intro ⟨by kernel_rfl, by kernel_rfl⟩ ?_)
           | (refine Or.inl ⟨_, ref05_Right _, ?_⟩)
           | (refine ⟨_, ref05_Right _, ?_⟩)
           | (refine cond_f ?_ ?_)
           | (refine ⟨_, ⟨by decide, rfl⟩, ?_⟩)
           | (refine cond_i (fun h => ?_) (fun h => ?_)))
  all_goals (conv => whnf)
  all_goals
    refine int_eq ?_
    first | exact (clean_right ‹_›).symm | exact (clean_wrong ‹_›).symm
theorem code_rank (a : Int) : Fv Tryd.prog 116 [.int .i64 a] (.int .i64 (rank a)) := by
  refine Fv.of_awp Tryd.func116 rfl (by kernel_rfl) rfl (Nat.le_of_ble_eq_true rfl) ?_
  repeat' (conv => whnf
           first
           | (refine And.intro (by kernel_rfl) ?_)
           | (refine And.intro ⟨by kernel_rfl, by kernel_rfl⟩ ?_)
           | (refine Or.inl ⟨_, code_Clean _, ?_⟩)
           | (refine ⟨_, code_Clean _, ?_⟩)
           | (refine cond_f ?_ ?_)
           | (refine ⟨_, ⟨by decide, rfl⟩, ?_⟩)
           | (refine cond_i (fun h => ?_) (fun h => ?_)))
  all_goals (conv => whnf)
  all_goals
    refine int_eq ?_
    have := clean_bd a
    unfold rank
    simp only [beq_iff_eq, beq_eq_false_iff_ne, ne_eq] at *
    try rw [wrap_i64 (by omega)]
    (repeat' split) <;> omega
theorem code_Join (a b : Int) : Fv Tryd.prog 79 [.int .i64 a, .int .i64 b] (.int .i64 (join a b)) := by
  refine Fv.of_awp Tryd.func79 rfl (by kernel_rfl) rfl (Nat.le_of_ble_eq_true rfl) ?_
  repeat' (conv => whnf
           first
           | (refine And.intro (by kernel_rfl) ?_)
           | (refine And.intro ⟨by kernel_rfl, by kernel_rfl⟩ ?_)
           | (refine Or.inl ⟨_, code_Clean _, ?_⟩)
           | (refine ⟨_, code_Clean _, ?_⟩)
           | (refine Or.inl ⟨_, code_rank _, ?_⟩)
           | (refine ⟨_, code_rank _, ?_⟩)
           | (refine cond_f ?_ ?_)
           | (refine ⟨_, ⟨by decide, rfl⟩, ?_⟩)
           | (refine cond_i (fun h => ?_) (fun h => ?_)))
  all_goals (conv => whnf)
  all_goals
    refine int_eq ?_
    simp only [rank_clean, decide_eq_true_eq, decide_eq_false_iff_not] at *
    unfold join
    (repeat' split) <;> omega
theorem ref05_place (a : Int) : Fv Tryd.prog 117 [.int .i64 a] (.int .i64 (place a)) := by
  refine Fv.of_awp Tryd.func117 rfl (by kernel_rfl) rfl (Nat.le_of_ble_eq_true rfl) ?_
  repeat' (conv => whnf
           first
           | (refine And.intro (by kernel_rfl) ?_)
           | (refine And.intro ⟨by kernel_rfl, by kernel_rfl⟩ ?_)
           | (refine cond_f ?_ ?_)
           | (refine ⟨_, ⟨by decide, rfl⟩, ?_⟩)
           | (refine cond_i (fun h => ?_) (fun h => ?_)))
  all_goals (conv => whnf)
  refine Has.ofN 18 ?_
  repeat' (conv => whnf
           first
           | (refine And.intro (by kernel_rfl) ?_)
           | (refine And.intro ⟨by kernel_rfl, by kernel_rfl⟩ ?_)
           | (refine Or.inl ⟨_, ref05_Clean _, ?_⟩)
           | (refine ⟨_, ref05_Clean _, ?_⟩)
           | (refine cond_f ?_ ?_)
           | (refine ⟨_, ⟨by decide, rfl⟩, ?_⟩)
           | (refine cond_i (fun h => ?_) (fun h => ?_)))
  all_goals (conv => whnf)
  all_goals
    refine int_eq ?_
    have hb := clean_bd a
    simp only [beq_iff_eq, beq_eq_false_iff_ne, ne_eq] at *
    unfold place
    generalize clean a = x at *
    first
    | (subst_vars; rfl)
    | (exfalso; omega)
    | (have : (x.toNat : Int) = x := Int.toNat_of_nonneg hb.1
       exfalso; omega)
    | skip
theorem ref05_Join (a b : Int) : Fv Tryd.prog 80 [.int .i64 a, .int .i64 b] (.int .i64 (join a b)) := by
  refine Fv.of_awp Tryd.func80 rfl (by kernel_rfl) rfl (Nat.le_of_ble_eq_true rfl) ?_
  repeat' (conv => whnf
           first
           | (refine And.intro (by kernel_rfl) ?_)
           | (refine And.intro ⟨by kernel_rfl, by kernel_rfl⟩ ?_)
           | (refine Or.inl ⟨_, ref05_Clean _, ?_⟩)
           | (refine ⟨_, ref05_Clean _, ?_⟩)
           | (refine Or.inl ⟨_, ref05_place _, ?_⟩)
           | (refine ⟨_, ref05_place _, ?_⟩)
           | (refine cond_f ?_ ?_)
           | (refine ⟨_, ⟨by decide, rfl⟩, ?_⟩)
           | (refine cond_i (fun h => ?_) (fun h => ?_)))
  all_goals (conv => whnf)
  all_goals
    refine int_eq ?_
    simp only [decide_eq_true_eq, decide_eq_false_iff_not, place_lt] at *
    unfold join
    (repeat' split) <;> omega
end Go.Proofs.YtfacmphjplablaaDoor.Cn
namespace Go.Proofs.YtfacmphjplablaaDoor.Cn
open Go Go.Proofs Go.Proofs.YtfacmphjplablaaDoor.Av Go.Proofs.YtfacmphjplablaaDoor.Sp
set_option linter.unusedVariables false
set_option linter.unusedSimpArgs false
set_option maxRecDepth 100000
attribute [local irreducible] Fv Fp

theorem timeout_unit (c : Int) : Fv Tryd.prog 113 [.int .u8 c] (.int .i64 (unitI c)) := by
  refine Fv.of_awp Tryd.func113 rfl (by kernel_rfl) rfl (Nat.le_of_ble_eq_true rfl) ?_
  unfold unitI
  repeat' (conv => whnf
           first
           | (refine And.intro (by kernel_rfl) ?_)
           | (refine And.intro ⟨by kernel_rfl, by kernel_rfl⟩ ?_)
           | (refine cond_f ?_ ?_)
           | (refine ⟨_, ⟨by decide, rfl⟩, ?_⟩)
           | (refine cond_i (fun h => ?_) (fun h => ?_)))
  all_goals (conv => whnf)
  all_goals
    simp only [beq_iff_eq, beq_eq_false_iff_ne, ne_eq] at *
    first
      | (subst_vars; rfl)
      | (simp only [*, if_false]; done)
      | (simp only [*, if_false]; rfl)
theorem ref02_Unit (c : Int) : Fv Tryd.prog 77 [.int .u8 c] (.int .i64 (unitI c)) := by
  refine Fv.of_awp Tryd.func77 rfl (by kernel_rfl) rfl (Nat.le_of_ble_eq_true rfl) ?_
  unfold unitI
  repeat' (conv => whnf
           first
           | (refine And.intro (by kernel_rfl) ?_)
           | (refine And.intro ⟨by kernel_rfl, by kernel_rfl⟩ ?_)
           | (refine cond_f ?_ ?_)
           | (refine ⟨_, ⟨by decide, rfl⟩, ?_⟩)
           | (refine cond_i (fun h => ?_) (fun h => ?_)))
  all_goals (conv => whnf)
  all_goals
    simp only [beq_iff_eq, beq_eq_false_iff_ne, ne_eq] at *
    first
      | (subst_vars; rfl)
      | (simp only [*, if_false]; done)
      | (simp only [*, if_false]; rfl)
end Go.Proofs.YtfacmphjplablaaDoor.Cn
namespace Go.Proofs.YtfacmphjplablaaDoor.Cn
open Go Go.Proofs Go.Proofs.YtfacmphjplablaaDoor.Av Go.Proofs.YtfacmphjplablaaDoor.Sp
set_option linter.unusedVariables false
set_option linter.unusedSimpArgs false
set_option maxRecDepth 100000
attribute [local irreducible] Fv Fp

theorem tmul_of (a b x y m : Int) (hx : 0 ≤ x ∧ x ≤ 1125899906842624) (hy : 0 ≤ y ∧ y ≤ 1125899906842624) (hm : clamp (x * y) = m) (n1 : Fv Tryd.prog 42 [.int .i64 a] (.int .i64 x)) (n2 : Fv Tryd.prog 42 [.int .i64 b] (.int .i64 y)) :
    Fv Tryd.prog 118 [.int .i64 a, .int .i64 b] (.int .i64 m) := by
  refine Fv.of_awp Tryd.func118 rfl (by kernel_rfl) rfl (Nat.le_of_ble_eq_true rfl) ?_
  by_cases h : y > 0
  · have b1 : decide (y > 0) = true := decide_eq_true h
    have b0 : (y == 0) = false := by simp; omega
    have hd : IntKind.i64.wrap ((1125899906842624 : Int).tdiv y) = 1125899906842624 / y := by
      have h1 : 0 ≤ 1125899906842624 / y := Int.ediv_nonneg (by omega) (by omega)
      have h2 : 1125899906842624 / y ≤ 1125899906842624 := Int.ediv_le_self _ (by omega)
      rw [Int.tdiv_eq_ediv_of_nonneg (by omega), wrap_i64 (by omega)]
    by_cases h2 : x > 1125899906842624 / y
    · have b2 : decide (x > IntKind.i64.wrap ((1125899906842624 : Int).tdiv y)) = true := decide_eq_true (by rw [hd]; exact h2)
      have h3 : 1125899906842624 < x * y := (Int.ediv_lt_iff_lt_mul h).1 h2
      have e : m = 1125899906842624 := by rw [← hm]; unfold clamp; rw [if_neg (by omega), if_pos (by omega)]
      repeat' (conv => whnf
               first
               | (refine And.intro (by kernel_rfl) ?_)
               | (refine And.intro ⟨by kernel_rfl, by kernel_rfl⟩ ?_)
               | (refine Or.inl ⟨_, n1, ?_⟩)
               | (refine ⟨_, n1, ?_⟩)
               | (refine Or.inl ⟨_, n2, ?_⟩)
               | (refine ⟨_, n2, ?_⟩)
               | (refine cond_1 b1 ?_)
               | (refine cond_f b0 ?_)
               | (refine cond_1 b2 ?_)
               | (refine cond_f ?_ ?_)
               | (refine ⟨_, ⟨by decide, rfl⟩, ?_⟩)
               | (refine cond_i (fun h => ?_) (fun h => ?_)))
      all_goals (conv => whnf)
      all_goals rw [e]
    · have b2 : decide (x > IntKind.i64.wrap ((1125899906842624 : Int).tdiv y)) = false := decide_eq_false (by rw [hd]; exact h2)
      have h3 : x * y ≤ 1125899906842624 := by
        have := (Int.le_ediv_iff_mul_le (a := x) (b := 1125899906842624) h).1 (by omega)
        exact this
      have h4 : 0 ≤ x * y := Int.mul_nonneg hx.1 hy.1
      have e : m = IntKind.i64.wrap (x * y) := by rw [← hm, clamp_id ⟨h4, h3⟩, wrap_i64 ⟨by omega, by omega⟩]
      repeat' (conv => whnf
               first
               | (refine And.intro (by kernel_rfl) ?_)
               | (refine And.intro ⟨by kernel_rfl, by kernel_rfl⟩ ?_)
               | (refine Or.inl ⟨_, n1, ?_⟩)
               | (refine ⟨_, n1, ?_⟩)
               | (refine Or.inl ⟨_, n2, ?_⟩)
               | (refine ⟨_, n2, ?_⟩)
               | (refine cond_1 b1 ?_)
               | (refine cond_f b0 ?_)
               | (refine cond_0 b2 ?_)
               | (refine cond_f ?_ ?_)
               | (refine ⟨_, ⟨by decide, rfl⟩, ?_⟩)
               | (refine cond_i (fun h => ?_) (fun h => ?_)))
      all_goals (conv => whnf)
      all_goals rw [e]
  · have b1 : decide (y > 0) = false := decide_eq_false h
    obtain rfl : y = 0 := by omega
    have e : m = IntKind.i64.wrap (x * 0) := by rw [← hm, Int.mul_zero]; rfl
    repeat' (conv => whnf
             first
             | (refine And.intro (by kernel_rfl) ?_)
             | (refine And.intro ⟨by kernel_rfl, by kernel_rfl⟩ ?_)
             | (refine Or.inl ⟨_, n1, ?_⟩)
             | (refine ⟨_, n1, ?_⟩)
             | (refine Or.inl ⟨_, n2, ?_⟩)
             | (refine ⟨_, n2, ?_⟩)
             | (refine cond_0 b1 ?_)
             | (refine cond_f ?_ ?_)
             | (refine ⟨_, ⟨by decide, rfl⟩, ?_⟩)
             | (refine cond_i (fun h => ?_) (fun h => ?_)))
    all_goals (conv => whnf)
    all_goals rw [e]
theorem ticks_MulT (a b : Int) : Fv Tryd.prog 118 [.int .i64 a, .int .i64 b] (.int .i64 (mulT a b)) :=
  tmul_of a b (clamp a) (clamp b) _ (clamp_bd a) (clamp_bd b) rfl (ticks_Clamp a) (ticks_Clamp b)
structure MulB where
  n : Int
  a : Int
  b : Int
end Go.Proofs.YtfacmphjplablaaDoor.Cn
namespace Go.Proofs.YtfacmphjplablaaDoor.Cn
open Go Go.Proofs Go.Proofs.YtfacmphjplablaaDoor.Av Go.Proofs.YtfacmphjplablaaDoor.Sp
set_option linter.unusedVariables false
set_option linter.unusedSimpArgs false
set_option maxRecDepth 100000
attribute [local irreducible] Fv Fp

theorem dec_no {s : ByteArray} (h : s.size < 2 ∨ 9 < s.size) : dec s = (0, 3) := by unfold dec; rw [if_pos h]
theorem dec_form {s : ByteArray} (h : ¬ (s.size < 2 ∨ 9 < s.size)) (h2 : okD s (s.size - 1) = false) : dec s = (0, 5) := by unfold dec; rw [if_neg h, if_pos h2]
theorem dec_n {s : ByteArray} (h : ¬ (s.size < 2 ∨ 9 < s.size)) (h2 : okD s (s.size - 1) = true) (h3 : byteAt s (s.size - 1) = 110) : dec s = (decN s (s.size - 1) / 1000, 0) := by unfold dec; rw [if_neg h, if_neg (by rw [h2]; simp), if_pos h3]
theorem dec_unit {s : ByteArray} (h : ¬ (s.size < 2 ∨ 9 < s.size)) (h2 : okD s (s.size - 1) = true) (h3 : byteAt s (s.size - 1) ≠ 110) (h4 : unitI (byteAt s (s.size - 1)) = 0) : dec s = (0, 5) := by unfold dec; rw [if_neg h, if_neg (by rw [h2]; simp), if_neg h3, if_pos h4]
theorem dec_ok {s : ByteArray} (h : ¬ (s.size < 2 ∨ 9 < s.size)) (h2 : okD s (s.size - 1) = true) (h3 : byteAt s (s.size - 1) ≠ 110) (h4 : unitI (byteAt s (s.size - 1)) ≠ 0) : dec s = (mulT (decN s (s.size - 1)) (unitI (byteAt s (s.size - 1))), 0) := by unfold dec; rw [if_neg h, if_neg (by rw [h2]; simp), if_neg h3, if_neg h4]
theorem wrap_u8_id {n : Int} (h : 0 ≤ n ∧ n < 256) : IntKind.u8.wrap n = n := by
  obtain ⟨m, rfl⟩ := Int.eq_ofNat_of_zero_le h.1
  rw [wrap_u8, u8_mod]; omega
theorem decode_no (s : ByteArray) (h : s.size < 2 ∨ 9 < s.size) : Fv Tryd.prog 82 [.str s] (.tup [.int .i64 0, .int .i64 3]) := by
  refine Fv.of_awp Tryd.func82 rfl (by kernel_rfl) rfl (Nat.le_of_ble_eq_true rfl) ?_
  by_cases h1 : s.size < 2
  · have b1 : decide ((s.size : Int) < 2) = true := decide_eq_true (by omega)
    repeat' (conv => whnf
             first
             | (refine And.intro (by kernel_rfl) ?_)
             | (refine And.intro ⟨by kernel_rfl, by kernel_rfl⟩ ?_)
             | (refine cond_1 b1 ?_)
             | (refine cond_f ?_ ?_)
             | (refine ⟨_, ⟨by decide, rfl⟩, ?_⟩)
             | (refine cond_i (fun h => ?_) (fun h => ?_)))
    all_goals (conv => whnf)
    all_goals rfl
  · have b1 : decide ((s.size : Int) < 2) = false := decide_eq_false (by omega)
    have b2 : decide ((s.size : Int) > 9) = true := decide_eq_true (by omega)
    repeat' (conv => whnf
             first
             | (refine And.intro (by kernel_rfl) ?_)
             | (refine And.intro ⟨by kernel_rfl, by kernel_rfl⟩ ?_)
             | (refine cond_0 b1 ?_)
             | (refine cond_1 b2 ?_)
             | (refine cond_f ?_ ?_)
             | (refine ⟨_, ⟨by decide, rfl⟩, ?_⟩)
             | (refine cond_i (fun h => ?_) (fun h => ?_)))
    all_goals (conv => whnf)
    all_goals rfl
set_option maxHeartbeats 4000000 in
theorem timeout_Decode (s : ByteArray) : Fv Tryd.prog 82 [.str s] (.tup [.int .i64 (dec s).1, .int .i64 (dec s).2]) := by
  by_cases h : s.size < 2 ∨ 9 < s.size
  · rw [dec_no h]; exact decode_no s h
  have b1 : decide ((s.size : Int) < 2) = false := decide_eq_false (by omega)
  have b2 : decide ((s.size : Int) > 9) = false := decide_eq_false (by omega)
  obtain ⟨m, hm⟩ : ∃ m, s.size - 1 = m := ⟨_, rfl⟩
  have w1 : IntKind.i64.wrap ((s.size : Int) - 1) = (m : Int) := by rw [wrap_i64 (by omega)]; omega
  obtain ⟨c, hc⟩ : ∃ c, byteAt s m = c := ⟨_, rfl⟩
  have hu := timeout_unit c
  refine Fv.of_awp Tryd.func82 rfl (by kernel_rfl) rfl (Nat.le_of_ble_eq_true rfl) ?_
  repeat' (conv => whnf
           first
           | (refine And.intro (by kernel_rfl) ?_)
           | (refine And.intro ⟨by kernel_rfl, by kernel_rfl⟩ ?_)
           | (refine cond_0 b1 ?_)
           | (refine cond_0 b2 ?_)
           | (refine cond_f ?_ ?_)
           | (refine ⟨_, ⟨by decide, rfl⟩, ?_⟩)
           | (refine cond_i (fun h => ?_) (fun h => ?_)))
  all_goals (conv => whnf)
  refine Has.each [0, 4, 18, 19] [] m (fun k (n : Int) => okD s k = true ∧ n = decN s k) (fun n i =>
    St.of 57 [(0, .str s), (4, .int .i64 n), (18, .int .i64 (m : Int)), (19, .int .i64 i)] [] []) ⟨0, 0, by rw [← w1]; rfl, ⟨rfl, rfl⟩, rfl⟩ (fun k n hk hI => ?_) (fun n hI => ?_)
  · obtain ⟨i1, rfl⟩ := hI
    have c1 : decide ((k : Int) < (m : Int)) = true := decide_eq_true (by omega)
    have f1 : (0 : Int) ≤ (k : Int) ∧ (k : Int) < (s.size : Int) := ⟨by omega, by omega⟩
    have hb := byteAt_bd s k
    by_cases h1 : byteAt s k < 48
    · have d1 : decide (byteAt s k < 48) = true := decide_eq_true h1
      rw [dec_form h (okD_no (i := k) (by omega) (by omega))]
      refine awp_go ?_
      repeat' (conv => whnf
               first
               | (refine And.intro (by kernel_rfl) ?_)
               | (refine And.intro ⟨by kernel_rfl, by kernel_rfl⟩ ?_)
               | (refine cond_1 c1 ?_)
               | (refine ⟨f1, ?_⟩)
               | (refine cond_1 d1 ?_)
               | (refine cond_f ?_ ?_)
               | (refine ⟨_, ⟨by decide, rfl⟩, ?_⟩)
               | (refine cond_i (fun h => ?_) (fun h => ?_)))
      all_goals (conv => whnf)
      all_goals rfl
    · have d1 : decide (byteAt s k < 48) = false := decide_eq_false h1
      by_cases h2 : byteAt s k > 57
      · have d2 : decide (byteAt s k > 57) = true := decide_eq_true h2
        rw [dec_form h (okD_no (i := k) (by omega) (by omega))]
        refine awp_go ?_
        repeat' (conv => whnf
                 first
                 | (refine And.intro (by kernel_rfl) ?_)
                 | (refine And.intro ⟨by kernel_rfl, by kernel_rfl⟩ ?_)
                 | (refine cond_1 c1 ?_)
                 | (refine ⟨f1, ?_⟩)
                 | (refine cond_0 d1 ?_)
                 | (refine cond_1 d2 ?_)
                 | (refine cond_f ?_ ?_)
                 | (refine ⟨_, ⟨by decide, rfl⟩, ?_⟩)
                 | (refine cond_i (fun h => ?_) (fun h => ?_)))
        all_goals (conv => whnf)
        all_goals rfl
      · have d2 : decide (byteAt s k > 57) = false := decide_eq_false h2
        refine awp_go ?_
        repeat' (conv => whnf
                 first
                 | (refine And.intro (by kernel_rfl) ?_)
                 | (refine And.intro ⟨by kernel_rfl, by kernel_rfl⟩ ?_)
                 | (refine cond_1 c1 ?_)
                 | (refine ⟨f1, ?_⟩)
                 | (refine cond_0 d1 ?_)
                 | (refine cond_0 d2 ?_)
                 | (refine cond_f ?_ ?_)
                 | (refine ⟨_, ⟨by decide, rfl⟩, ?_⟩)
                 | (refine cond_i (fun h => ?_) (fun h => ?_)))
        all_goals (conv => whnf)
        have hn := decN_bd s k i1
        have hp := pow10_le (k := k) (by omega)
        have e1 : IntKind.i64.wrap (IntKind.i64.wrap (10 * decN s k) + IntKind.i64.wrap (IntKind.u8.wrap (byteAt s k - 48))) = decN s (k + 1) := by
          rw [wrap_u8_id (by omega), wrap_i64 (n := 10 * decN s k) (by omega), wrap_i64 (n := byteAt s k - 48) (by omega), wrap_i64 (by omega), decN_succ]; omega
        refine ⟨decN s (k + 1), IntKind.i64.wrap ((k : Int) + 1), ?_, ⟨by rw [okD_succ, i1]; unfold dig; simp; omega, rfl⟩, wrap_i64 (by omega)⟩
        rw [← e1]
        rfl
  · obtain ⟨i1, rfl⟩ := hI
    have c1 : decide ((m : Int) < (m : Int)) = false := decide_eq_false (by omega)
    have f1 : (0 : Int) ≤ IntKind.i64.wrap ((s.size : Int) - 1) ∧ IntKind.i64.wrap ((s.size : Int) - 1) < (s.size : Int) := by rw [w1]; omega
    have ec : byteAt s (IntKind.i64.wrap ((s.size : Int) - 1)).toNat = c := by rw [w1, Int.toNat_natCast, hc]
    have hn := decN_bd s m i1
    have hp := pow10_le (k := m) (by omega)
    rw [← hm] at i1 hn
    have hub := unit_bd c
    refine awp_go ?_
    by_cases h3 : c = 110
    · have d1 : (byteAt s (IntKind.i64.wrap ((s.size : Int) - 1)).toNat == 110) = true := by rw [ec, h3]; rfl
      rw [dec_n h i1 (by rw [hm, hc, h3])]
      repeat' (conv => whnf
               first
               | (refine And.intro (by kernel_rfl) ?_)
               | (refine And.intro ⟨by kernel_rfl, by kernel_rfl⟩ ?_)
               | (refine cond_0 c1 ?_)
               | (refine ⟨f1, ?_⟩)
               | (refine cond_1 d1 ?_)
               | (refine cond_f ?_ ?_)
               | (refine ⟨_, ⟨by decide, rfl⟩, ?_⟩)
               | (refine cond_i (fun h => ?_) (fun h => ?_)))
      all_goals (conv => whnf)
      all_goals
        simp only
        rw [hm, Int.tdiv_eq_ediv_of_nonneg (by rw [← hm]; exact hn.1), wrap_i64 (by rw [hm] at hn; omega)]
    · have d1 : (byteAt s (IntKind.i64.wrap ((s.size : Int) - 1)).toNat == 110) = false := by rw [ec]; simpa using h3
      rw [← ec] at hu
      by_cases h4 : unitI c = 0
      · have d2 : (unitI (byteAt s (IntKind.i64.wrap ((s.size : Int) - 1)).toNat) == 0) = true := by rw [ec, h4]; rfl
        rw [dec_unit h i1 (by rw [hm, hc]; exact h3) (by rw [hm, hc]; exact h4)]
        repeat' (conv => whnf
                 first
                 | (refine And.intro (by kernel_rfl) ?_)
                 | (refine And.intro ⟨by kernel_rfl, by kernel_rfl⟩ ?_)
                 | (refine cond_0 c1 ?_)
                 | (refine ⟨f1, ?_⟩)
                 | (refine cond_0 d1 ?_)
                 | (refine Or.inl ⟨_, hu, ?_⟩)
                 | (refine ⟨_, hu, ?_⟩)
                 | (refine cond_1 d2 ?_)
                 | (refine cond_f ?_ ?_)
                 | (refine ⟨_, ⟨by decide, rfl⟩, ?_⟩)
                 | (refine cond_i (fun h => ?_) (fun h => ?_)))
        all_goals (conv => whnf)
        all_goals rfl
      · have d2 : (unitI (byteAt s (IntKind.i64.wrap ((s.size : Int) - 1)).toNat) == 0) = false := by rw [ec]; simpa using h4
        have hmu := ticks_MulT (decN s m) (unitI (byteAt s (IntKind.i64.wrap ((s.size : Int) - 1)).toNat))
        rw [dec_ok h i1 (by rw [hm, hc]; exact h3) (by rw [hm, hc]; exact h4)]
        repeat' (conv => whnf
                 first
                 | (refine And.intro (by kernel_rfl) ?_)
                 | (refine And.intro ⟨by kernel_rfl, by kernel_rfl⟩ ?_)
                 | (refine cond_0 c1 ?_)
                 | (refine ⟨f1, ?_⟩)
                 | (refine cond_0 d1 ?_)
                 | (refine Or.inl ⟨_, hu, ?_⟩)
                 | (refine ⟨_, hu, ?_⟩)
                 | (refine cond_0 d2 ?_)
                 | (refine Or.inl ⟨_, hmu, ?_⟩)
                 | (refine ⟨_, hmu, ?_⟩)
                 | (refine cond_f ?_ ?_)
                 | (refine ⟨_, ⟨by decide, rfl⟩, ?_⟩)
                 | (refine cond_i (fun h => ?_) (fun h => ?_)))
        all_goals (conv => whnf)
        all_goals
          simp only
          rw [hm, hc, ec]
end Go.Proofs.YtfacmphjplablaaDoor.Cn
namespace Go.Proofs.YtfacmphjplablaaDoor.Cn
open Go Go.Proofs Go.Proofs.YtfacmphjplablaaDoor.Av Go.Proofs.YtfacmphjplablaaDoor.Sp
set_option linter.unusedVariables false
set_option linter.unusedSimpArgs false
set_option linter.unusedSectionVars false
set_option maxRecDepth 100000
attribute [local irreducible] Fv Fp

theorem strEq_dec (a b : ByteArray) : strEq a b = decide (a = b) := by
  rw [Bool.eq_iff_iff, decide_eq_true_eq]
  constructor
  · intro h
    rw [strEq_eq, beq_iff_eq, ByteArray.toList_eq, ByteArray.toList_eq] at h
    exact ext_list h
  · rintro rfl; exact strEq_self _
theorem packet_eqB (c d : Packet) : (c.kind == d.kind && (c.from == d.from && (c.to == d.to && (((c.key.id.node == d.key.id.node && (c.key.id.inc == d.key.id.inc && (c.key.id.seq == d.key.id.seq && true))) && (c.key.att == d.key.att && true)) && (c.hop == d.hop && (c.stamp == d.stamp && (strEq c.timeout d.timeout && (c.until == d.until && (c.program == d.program &&
    ((c.root.node == d.root.node && (c.root.inc == d.root.inc && (c.root.seq == d.root.seq && true))) && (((c.parent.id.node == d.parent.id.node && (c.parent.id.inc == d.parent.id.inc && (c.parent.id.seq == d.parent.id.seq && true))) && (c.parent.att == d.parent.att && true)) && (c.code == d.code && (c.value == d.value && (c.more == d.more && (c.delay == d.delay && true))))))))))))))) = decide (c = d) := by
  rw [key_eqB c.key d.key, id_eqB c.root d.root, key_eqB c.parent d.parent, strEq_dec]
  obtain ⟨_, _, _, _, _, _, _, _, _, _, _, _, _, _, _⟩ := c
  obtain ⟨_, _, _, _, _, _, _, _, _, _, _, _, _, _, _⟩ := d
  rw [Bool.eq_iff_iff]
  simp only [Bool.and_eq_true, beq_iff_eq, decide_eq_true_eq, Packet.mk.injEq, and_true]
theorem code_RightP (a : Int) : Fv Tryd.prog 107 [.int .i64 a] (.bool (right a)) := code_Right a
theorem call_of (p : Packet) (x e : Int) (a b c d : Bool) (n1 : Fv Tryd.prog 82 [.str p.timeout] (.tup [.int .i64 x, .int .i64 e]))
    (n2 : Fv Tryd.prog 108 [.int .i64 p.stamp] (.bool a)) (n3 : Fv Tryd.prog 108 [.int .i64 p.until] (.bool b))
    (n4 : Fv Tryd.prog 129 [.agg p.root.g] (.bool c)) (n5 : Fv Tryd.prog 128 [.agg p.parent.g] (.bool d)) :
    Fv Tryd.prog 106 [.agg p.g] (.bool (decide (e = 0 ∧ 1 ≤ p.hop ∧ p.hop ≤ 16 ∧ 0 ≤ p.program ∧ p.program < 16) && a && b && c && d)) := by
  refine Fv.of_awp Tryd.func106 rfl (by kernel_rfl) rfl (Nat.le_of_ble_eq_true rfl) ?_
  repeat' (conv => whnf
           first
           | (refine And.intro (by kernel_rfl) ?_)
           | (refine And.intro ⟨by kernel_rfl, by kernel_rfl⟩ ?_)
           | (refine Or.inl ⟨_, n1, ?_⟩)
           | (refine ⟨_, n1, ?_⟩)
           | (refine Or.inl ⟨_, n2, ?_⟩)
           | (refine ⟨_, n2, ?_⟩)
           | (refine Or.inl ⟨_, n3, ?_⟩)
           | (refine ⟨_, n3, ?_⟩)
           | (refine Or.inl ⟨_, n4, ?_⟩)
           | (refine ⟨_, n4, ?_⟩)
           | (refine Or.inl ⟨_, n5, ?_⟩)
           | (refine ⟨_, n5, ?_⟩)
           | (refine cond_f ?_ ?_)
           | (refine ⟨_, ⟨by decide, rfl⟩, ?_⟩)
           | (refine cond_i (fun h => ?_) (fun h => ?_)))
  all_goals (conv => whnf)
  all_goals
    refine bool_eq ?_
    rw [Bool.eq_iff_iff]
    simp only [decide_eq_true_eq, decide_eq_false_iff_not, ge_iff_le, beq_iff_eq, beq_eq_false_iff_ne, ne_eq, Bool.false_eq_true, false_iff, Bool.and_eq_true, not_and, Bool.not_eq_true] at *
    first
      | (intros; omega)
      | (simp only [*]; omega)
      | (simp [*]; done)
      | (simp [*]; omega)
theorem packet_call (p : Packet) : Fv Tryd.prog 106 [.agg p.g] (.bool (okCall p)) :=
  call_of p _ _ _ _ _ _ (timeout_Decode p.timeout) (packet_tick _) (packet_tick _) (ident_Right _) (ident_Key _)
set_option maxHeartbeats 4000000 in
theorem right_of (p q : Packet) (a b k c v t : Bool) (n1 : Fv Tryd.prog 103 [.int .i64 p.from] (.bool a)) (n2 : Fv Tryd.prog 103 [.int .i64 p.to] (.bool b))
    (n3 : Fv Tryd.prog 104 [.agg p.key.g] (.bool k)) (n4 : Fv Tryd.prog 105 [.agg p.g] (.agg q.g)) (n5 : Fv Tryd.prog 106 [.agg p.g] (.bool c))
    (n6 : Fv Tryd.prog 107 [.int .i64 p.code] (.bool v)) (n7 : Fv Tryd.prog 108 [.int .i64 p.until] (.bool t)) :
    Fv Tryd.prog 70 [.agg p.g] (.bool (a && b && k && decide (q = p) && (if p.kind = 1 then c else if p.kind = 2 then v && decide (0 ≤ p.value ∧ p.value < 2147483648 ∧ (p.more = true → p.code = 0 ∧ p.value = 0))
      else if p.kind = 3 then true else if p.kind = 4 then t else if p.kind = 5 then decide (-1 ≤ p.delay ∧ p.delay ≤ 1125899906842624) else false))) := by
  refine Fv.of_awp Tryd.func70 rfl (by kernel_rfl) rfl (Nat.le_of_ble_eq_true rfl) ?_
  cases a
  · skip
    repeat' (conv => whnf
             first
             | (refine And.intro (by kernel_rfl) ?_)
             | (refine And.intro ⟨by kernel_rfl, by kernel_rfl⟩ ?_)
             | (refine Or.inl ⟨_, n1, ?_⟩)
             | (refine ⟨_, n1, ?_⟩)
             | (refine cond_f ?_ ?_)
             | (refine ⟨_, ⟨by decide, rfl⟩, ?_⟩)
             | (refine cond_i (fun h => ?_) (fun h => ?_)))
    all_goals (conv => whnf)
    all_goals rfl
  cases b
  · skip
    repeat' (conv => whnf
             first
             | (refine And.intro (by kernel_rfl) ?_)
             | (refine And.intro ⟨by kernel_rfl, by kernel_rfl⟩ ?_)
             | (refine Or.inl ⟨_, n1, ?_⟩)
             | (refine ⟨_, n1, ?_⟩)
             | (refine Or.inl ⟨_, n2, ?_⟩)
             | (refine ⟨_, n2, ?_⟩)
             | (refine cond_f ?_ ?_)
             | (refine ⟨_, ⟨by decide, rfl⟩, ?_⟩)
             | (refine cond_i (fun h => ?_) (fun h => ?_)))
    all_goals (conv => whnf)
    all_goals rfl
  cases k
  · skip
    repeat' (conv => whnf
             first
             | (refine And.intro (by kernel_rfl) ?_)
             | (refine And.intro ⟨by kernel_rfl, by kernel_rfl⟩ ?_)
             | (refine Or.inl ⟨_, n1, ?_⟩)
             | (refine ⟨_, n1, ?_⟩)
             | (refine Or.inl ⟨_, n2, ?_⟩)
             | (refine ⟨_, n2, ?_⟩)
             | (refine Or.inl ⟨_, n3, ?_⟩)
             | (refine ⟨_, n3, ?_⟩)
             | (refine cond_f ?_ ?_)
             | (refine ⟨_, ⟨by decide, rfl⟩, ?_⟩)
             | (refine cond_i (fun h => ?_) (fun h => ?_)))
    all_goals (conv => whnf)
    all_goals rfl
  have hq := packet_eqB q p
  by_cases e : q = p
  · rw [decide_eq_true e] at hq
    have hq2 := congrArg Bool.not hq
    simp only [decide_eq_true e, Bool.true_and]
    repeat' (conv => whnf
             first
             | (refine And.intro (by kernel_rfl) ?_)
             | (refine And.intro ⟨by kernel_rfl, by kernel_rfl⟩ ?_)
             | (refine Or.inl ⟨_, n1, ?_⟩)
             | (refine ⟨_, n1, ?_⟩)
             | (refine Or.inl ⟨_, n2, ?_⟩)
             | (refine ⟨_, n2, ?_⟩)
             | (refine Or.inl ⟨_, n3, ?_⟩)
             | (refine ⟨_, n3, ?_⟩)
             | (refine Or.inl ⟨_, n4, ?_⟩)
             | (refine ⟨_, n4, ?_⟩)
             | (rw [hq])
             | (refine Or.inl ⟨_, n5, ?_⟩)
             | (refine ⟨_, n5, ?_⟩)
             | (refine Or.inl ⟨_, n6, ?_⟩)
             | (refine ⟨_, n6, ?_⟩)
             | (refine Or.inl ⟨_, n7, ?_⟩)
             | (refine ⟨_, n7, ?_⟩)
             | (refine cond_f ?_ ?_)
             | (refine ⟨_, ⟨by decide, rfl⟩, ?_⟩)
             | (refine cond_i (fun h => ?_) (fun h => ?_)))
    all_goals (conv => whnf)
    all_goals
      clear hq hq2 n1 n2 n3 n4 n5 n6 n7 e
      refine bool_eq ?_
      simp only [beq_iff_eq, beq_eq_false_iff_ne, ne_eq, decide_eq_true_eq, decide_eq_false_iff_not, Bool.not_eq_true', Bool.not_eq_false', ge_iff_le] at *
      simp only [*, if_true, if_false, Bool.true_and, Bool.false_and]
    all_goals try rfl
    all_goals
      rw [Bool.eq_iff_iff]
      simp
  · rw [decide_eq_false e] at hq
    repeat' (conv => whnf
             first
             | (refine And.intro (by kernel_rfl) ?_)
             | (refine And.intro ⟨by kernel_rfl, by kernel_rfl⟩ ?_)
             | (refine Or.inl ⟨_, n1, ?_⟩)
             | (refine ⟨_, n1, ?_⟩)
             | (refine Or.inl ⟨_, n2, ?_⟩)
             | (refine ⟨_, n2, ?_⟩)
             | (refine Or.inl ⟨_, n3, ?_⟩)
             | (refine ⟨_, n3, ?_⟩)
             | (refine Or.inl ⟨_, n4, ?_⟩)
             | (refine ⟨_, n4, ?_⟩)
             | (rw [hq])
             | (refine cond_f ?_ ?_)
             | (refine ⟨_, ⟨by decide, rfl⟩, ?_⟩)
             | (refine cond_i (fun h => ?_) (fun h => ?_)))
    all_goals (conv => whnf)
    all_goals
      rw [decide_eq_false e]
      rfl
theorem packet_Right (p : Packet) : Fv Tryd.prog 70 [.agg p.g] (.bool (okP p)) := by
  have := right_of p (cleanP p) _ _ _ _ _ _ (packet_node _) (packet_node _) (packet_attempt _) (packet_Clean p) (packet_call p) (code_Right _) (packet_tick _)
  have e : okP p = (decide (0 ≤ p.from ∧ p.from < 64) && decide (0 ≤ p.to ∧ p.to < 64) && (okKey p.key && decide (1 ≤ p.key.att)) && decide (cleanP p = p) && (if p.kind = 1 then okCall p else if p.kind = 2 then right p.code && decide (0 ≤ p.value ∧ p.value < 2147483648 ∧ (p.more = true → p.code = 0 ∧ p.value = 0))
      else if p.kind = 3 then true else if p.kind = 4 then tickI p.until else if p.kind = 5 then decide (-1 ≤ p.delay ∧ p.delay ≤ 1125899906842624) else false)) := by
    unfold okP okHead okKind
    congr 1
    rw [Bool.eq_iff_iff]
    simp only [Bool.and_eq_true, decide_eq_true_eq, and_assoc]
  rw [e]
  exact this
end Go.Proofs.YtfacmphjplablaaDoor.Cn
namespace Go.Proofs.YtfacmphjplablaaDoor.Cn
open Go Go.Proofs Go.Proofs.YtfacmphjplablaaDoor.Av Go.Proofs.YtfacmphjplablaaDoor.Sp
set_option linter.unusedVariables false
set_option linter.unusedSimpArgs false
set_option linter.unusedSectionVars false
set_option maxRecDepth 100000
attribute [local irreducible] Fv Fp

theorem numB_one {n : Nat} (h : n < 256) : (numB (n : Int) 1).size = 1 := by rw [show (1 : Int) = ((1 : Nat) : Int) from rfl, numB_yes (by omega) (by omega) (by omega), strL_size, dgs_len]
theorem strEq_no {a b : ByteArray} (h : a.size ≠ b.size) : strEq a b = false := by
  rw [strEq_dec, decide_eq_false_iff_not]
  rintro rfl
  exact h rfl
theorem bytes_Text (s : ByteArray) (h : s.size < 256) : Fv Tryd.prog 99 [.str s] (.str (textB s)) := by
  have n1 := bytes_Num (s.size : Nat) 1
  have hx := numB_one h
  unfold textB
  rw [if_pos h]
  generalize numB (s.size : Nat) 1 = x at *
  have b1 : strEq x ⟨#[]⟩ = false := strEq_no (by rw [hx]; decide)
  have z1 : ((x.size + s.size : Nat) : Int) ≤ 9223372036854775807 := by omega
  refine Fv.of_awp Tryd.func99 rfl (by kernel_rfl) rfl (Nat.le_of_ble_eq_true rfl) ?_
  repeat' (conv => whnf
           first
           | (refine And.intro (by kernel_rfl) ?_)
           | (refine And.intro ⟨by kernel_rfl, by kernel_rfl⟩ ?_)
           | (refine Or.inl ⟨_, n1, ?_⟩)
           | (refine ⟨_, n1, ?_⟩)
           | (refine cond_0 b1 ?_)
           | (refine ⟨z1, ?_⟩)
           | (refine cond_f ?_ ?_)
           | (refine ⟨_, ⟨by decide, rfl⟩, ?_⟩)
           | (refine cond_i (fun h => ?_) (fun h => ?_)))
  all_goals (conv => whnf)
  all_goals rfl
theorem textB_le (s : ByteArray) (h : s.size < 256) : (textB s).size ≤ 263 := by
  unfold textB; rw [if_pos h, ByteArray.size_append]; have := numB_le (s.size : Nat) 1; omega
theorem flagB_le (b : Bool) : (flagB b).size ≤ 1 := by unfold flagB; rw [strL_size]; simp
/-- Sums of short texts are short. -/
theorem sz2 {a b : ByteArray} {m n : Nat} (h1 : a.size ≤ m) (h2 : b.size ≤ n) (h : m + n ≤ 100000) : ((a.size + b.size : Nat) : Int) ≤ 9223372036854775807 ∧ (a ++ b).size ≤ m + n := ⟨by omega, by rw [ByteArray.size_append]; omega⟩
section
variable (p : Packet) (a b c k : ByteArray) (n1 : Fv Tryd.prog 97 [.int .i64 p.kind, .int .i64 1] (.str a)) (n2 : Fv Tryd.prog 97 [.int .i64 p.from, .int .i64 1] (.str b))
  (n3 : Fv Tryd.prog 97 [.int .i64 p.to, .int .i64 1] (.str c)) (n4 : Fv Tryd.prog 98 [.agg p.key.g] (.str k))
  (s1 : a.size ≤ 7) (s2 : b.size ≤ 7) (s3 : c.size ≤ 7) (s4 : k.size ≤ 28)
include n1 n2 n3 n4 s1 s2 s3 s4
set_option maxHeartbeats 4000000 in
theorem code_1 (hk : p.kind = 1) (h s t u g i q out : ByteArray) (m1 : Fv Tryd.prog 97 [.int .i64 p.hop, .int .i64 1] (.str h)) (m2 : Fv Tryd.prog 97 [.int .i64 p.stamp, .int .i64 7] (.str s))
    (m3 : Fv Tryd.prog 99 [.str p.timeout] (.str t)) (m4 : Fv Tryd.prog 97 [.int .i64 p.until, .int .i64 7] (.str u)) (m5 : Fv Tryd.prog 97 [.int .i64 p.program, .int .i64 1] (.str g))
    (m6 : Fv Tryd.prog 100 [.agg p.root.g] (.str i)) (m7 : Fv Tryd.prog 98 [.agg p.parent.g] (.str q))
    (m8 : Fv Tryd.prog 102 [.str ((a ++ b ++ c ++ k) ++ (h ++ s ++ t ++ u ++ g ++ i ++ q))] (.str out))
    (t1 : h.size ≤ 7) (t2 : s.size ≤ 7) (t3 : t.size ≤ 263) (t4 : u.size ≤ 7) (t5 : g.size ≤ 7) (t6 : i.size ≤ 21) (t7 : q.size ≤ 28) :
    Fv Tryd.prog 69 [.agg p.g] (.str out) := by
  have b1 : (p.kind == 1) = true := by simp [hk]
  have z1 := sz2 s1 s2 (by decide)
  have z2 := sz2 z1.2 s3 (by decide)
  have z3 := sz2 z2.2 s4 (by decide)
  have y1 := sz2 t1 t2 (by decide)
  have y2 := sz2 y1.2 t3 (by decide)
  have y3 := sz2 y2.2 t4 (by decide)
  have y4 := sz2 y3.2 t5 (by decide)
  have y5 := sz2 y4.2 t6 (by decide)
  have y6 := sz2 y5.2 t7 (by decide)
  have y7 := sz2 z3.2 y6.2 (by decide)
  refine Fv.of_awp Tryd.func69 rfl (by kernel_rfl) rfl (Nat.le_of_ble_eq_true rfl) ?_
  repeat' (conv => whnf
           first
           | (refine And.intro (by kernel_rfl) ?_)
           | (refine And.intro ⟨by kernel_rfl, by kernel_rfl⟩ ?_)
           | (refine Or.inl ⟨_, n1, ?_⟩)
           | (refine ⟨_, n1, ?_⟩)
           | (refine Or.inl ⟨_, n2, ?_⟩)
           | (refine ⟨_, n2, ?_⟩)
           | (refine Or.inl ⟨_, n3, ?_⟩)
           | (refine ⟨_, n3, ?_⟩)
           | (refine Or.inl ⟨_, n4, ?_⟩)
           | (refine ⟨_, n4, ?_⟩)
           | (refine ⟨z1.1, ?_⟩)
           | (refine ⟨z2.1, ?_⟩)
           | (refine ⟨z3.1, ?_⟩)
           | (refine cond_1 b1 ?_)
           | (refine Or.inl ⟨_, m1, ?_⟩)
           | (refine ⟨_, m1, ?_⟩)
           | (refine Or.inl ⟨_, m2, ?_⟩)
           | (refine ⟨_, m2, ?_⟩)
           | (refine Or.inl ⟨_, m3, ?_⟩)
           | (refine ⟨_, m3, ?_⟩)
           | (refine Or.inl ⟨_, m4, ?_⟩)
           | (refine ⟨_, m4, ?_⟩)
           | (refine Or.inl ⟨_, m5, ?_⟩)
           | (refine ⟨_, m5, ?_⟩)
           | (refine Or.inl ⟨_, m6, ?_⟩)
           | (refine ⟨_, m6, ?_⟩)
           | (refine Or.inl ⟨_, m7, ?_⟩)
           | (refine ⟨_, m7, ?_⟩)
           | (refine ⟨y1.1, ?_⟩)
           | (refine ⟨y2.1, ?_⟩)
           | (refine ⟨y3.1, ?_⟩)
           | (refine ⟨y4.1, ?_⟩)
           | (refine ⟨y5.1, ?_⟩)
           | (refine ⟨y6.1, ?_⟩)
           | (refine ⟨y7.1, ?_⟩)
           | (refine Or.inl ⟨_, m8, ?_⟩)
           | (refine ⟨_, m8, ?_⟩)
           | (refine cond_f ?_ ?_)
           | (refine ⟨_, ⟨by decide, rfl⟩, ?_⟩)
           | (refine cond_i (fun h => ?_) (fun h => ?_)))
  all_goals (conv => whnf)
  all_goals rfl
set_option maxHeartbeats 4000000 in
theorem code_2 (hk : p.kind = 2) (h s t out : ByteArray) (m1 : Fv Tryd.prog 97 [.int .i64 p.code, .int .i64 1] (.str h)) (m2 : Fv Tryd.prog 97 [.int .i64 p.value, .int .i64 4] (.str s))
    (m3 : Fv Tryd.prog 101 [.bool p.more] (.str t)) (m8 : Fv Tryd.prog 102 [.str ((a ++ b ++ c ++ k) ++ (h ++ s ++ t))] (.str out))
    (t1 : h.size ≤ 7) (t2 : s.size ≤ 7) (t3 : t.size ≤ 1) : Fv Tryd.prog 69 [.agg p.g] (.str out) := by
  have b1 : (p.kind == 1) = false := by simp [hk]
  have b2 : (p.kind == 2) = true := by simp [hk]
  have z1 := sz2 s1 s2 (by decide)
  have z2 := sz2 z1.2 s3 (by decide)
  have z3 := sz2 z2.2 s4 (by decide)
  have y1 := sz2 t1 t2 (by decide)
  have y2 := sz2 y1.2 t3 (by decide)
  have y7 := sz2 z3.2 y2.2 (by decide)
  refine Fv.of_awp Tryd.func69 rfl (by kernel_rfl) rfl (Nat.le_of_ble_eq_true rfl) ?_
  repeat' (conv => whnf
           first
           | (refine And.intro (by kernel_rfl) ?_)
           | (refine And.intro ⟨by kernel_rfl, by kernel_rfl⟩ ?_)
           | (refine Or.inl ⟨_, n1, ?_⟩)
           | (refine ⟨_, n1, ?_⟩)
           | (refine Or.inl ⟨_, n2, ?_⟩)
           | (refine ⟨_, n2, ?_⟩)
           | (refine Or.inl ⟨_, n3, ?_⟩)
           | (refine ⟨_, n3, ?_⟩)
           | (refine Or.inl ⟨_, n4, ?_⟩)
           | (refine ⟨_, n4, ?_⟩)
           | (refine ⟨z1.1, ?_⟩)
           | (refine ⟨z2.1, ?_⟩)
           | (refine ⟨z3.1, ?_⟩)
           | (refine cond_0 b1 ?_)
           | (refine cond_1 b2 ?_)
           | (refine Or.inl ⟨_, m1, ?_⟩)
           | (refine ⟨_, m1, ?_⟩)
           | (refine Or.inl ⟨_, m2, ?_⟩)
           | (refine ⟨_, m2, ?_⟩)
           | (refine Or.inl ⟨_, m3, ?_⟩)
           | (refine ⟨_, m3, ?_⟩)
           | (refine ⟨y1.1, ?_⟩)
           | (refine ⟨y2.1, ?_⟩)
           | (refine ⟨y7.1, ?_⟩)
           | (refine Or.inl ⟨_, m8, ?_⟩)
           | (refine ⟨_, m8, ?_⟩)
           | (refine cond_f ?_ ?_)
           | (refine ⟨_, ⟨by decide, rfl⟩, ?_⟩)
           | (refine cond_i (fun h => ?_) (fun h => ?_)))
  all_goals (conv => whnf)
  all_goals rfl
set_option maxHeartbeats 4000000 in
theorem code_3 (hk : p.kind = 3) (out : ByteArray) (m8 : Fv Tryd.prog 102 [.str (a ++ b ++ c ++ k)] (.str out)) : Fv Tryd.prog 69 [.agg p.g] (.str out) := by
  have b1 : (p.kind == 1) = false := by simp [hk]
  have b2 : (p.kind == 2) = false := by simp [hk]
  have b4 : (p.kind == 4) = false := by simp [hk]
  have b5 : (p.kind == 5) = false := by simp [hk]
  have z1 := sz2 s1 s2 (by decide)
  have z2 := sz2 z1.2 s3 (by decide)
  have z3 := sz2 z2.2 s4 (by decide)
  refine Fv.of_awp Tryd.func69 rfl (by kernel_rfl) rfl (Nat.le_of_ble_eq_true rfl) ?_
  repeat' (conv => whnf
           first
           | (refine And.intro (by kernel_rfl) ?_)
           | (refine And.intro ⟨by kernel_rfl, by kernel_rfl⟩ ?_)
           | (refine Or.inl ⟨_, n1, ?_⟩)
           | (refine ⟨_, n1, ?_⟩)
           | (refine Or.inl ⟨_, n2, ?_⟩)
           | (refine ⟨_, n2, ?_⟩)
           | (refine Or.inl ⟨_, n3, ?_⟩)
           | (refine ⟨_, n3, ?_⟩)
           | (refine Or.inl ⟨_, n4, ?_⟩)
           | (refine ⟨_, n4, ?_⟩)
           | (refine ⟨z1.1, ?_⟩)
           | (refine ⟨z2.1, ?_⟩)
           | (refine ⟨z3.1, ?_⟩)
           | (refine cond_0 b1 ?_)
           | (refine cond_0 b2 ?_)
           | (refine cond_0 b4 ?_)
           | (refine cond_0 b5 ?_)
           | (refine Or.inl ⟨_, m8, ?_⟩)
           | (refine ⟨_, m8, ?_⟩)
           | (refine cond_f ?_ ?_)
           | (refine ⟨_, ⟨by decide, rfl⟩, ?_⟩)
           | (refine cond_i (fun h => ?_) (fun h => ?_)))
  all_goals (conv => whnf)
  all_goals rfl
set_option maxHeartbeats 4000000 in
theorem code_4 (hk : p.kind = 4) (u out : ByteArray) (m1 : Fv Tryd.prog 97 [.int .i64 p.until, .int .i64 7] (.str u)) (m8 : Fv Tryd.prog 102 [.str ((a ++ b ++ c ++ k) ++ u)] (.str out)) (t1 : u.size ≤ 7) :
    Fv Tryd.prog 69 [.agg p.g] (.str out) := by
  have b1 : (p.kind == 1) = false := by simp [hk]
  have b2 : (p.kind == 2) = false := by simp [hk]
  have b4 : (p.kind == 4) = true := by simp [hk]
  have z1 := sz2 s1 s2 (by decide)
  have z2 := sz2 z1.2 s3 (by decide)
  have z3 := sz2 z2.2 s4 (by decide)
  have y1 := sz2 z3.2 t1 (by decide)
  refine Fv.of_awp Tryd.func69 rfl (by kernel_rfl) rfl (Nat.le_of_ble_eq_true rfl) ?_
  repeat' (conv => whnf
           first
           | (refine And.intro (by kernel_rfl) ?_)
           | (refine And.intro ⟨by kernel_rfl, by kernel_rfl⟩ ?_)
           | (refine Or.inl ⟨_, n1, ?_⟩)
           | (refine ⟨_, n1, ?_⟩)
           | (refine Or.inl ⟨_, n2, ?_⟩)
           | (refine ⟨_, n2, ?_⟩)
           | (refine Or.inl ⟨_, n3, ?_⟩)
           | (refine ⟨_, n3, ?_⟩)
           | (refine Or.inl ⟨_, n4, ?_⟩)
           | (refine ⟨_, n4, ?_⟩)
           | (refine ⟨z1.1, ?_⟩)
           | (refine ⟨z2.1, ?_⟩)
           | (refine ⟨z3.1, ?_⟩)
           | (refine cond_0 b1 ?_)
           | (refine cond_0 b2 ?_)
           | (refine cond_1 b4 ?_)
           | (refine Or.inl ⟨_, m1, ?_⟩)
           | (refine ⟨_, m1, ?_⟩)
           | (refine ⟨y1.1, ?_⟩)
           | (refine Or.inl ⟨_, m8, ?_⟩)
           | (refine ⟨_, m8, ?_⟩)
           | (refine cond_f ?_ ?_)
           | (refine ⟨_, ⟨by decide, rfl⟩, ?_⟩)
           | (refine cond_i (fun h => ?_) (fun h => ?_)))
  all_goals (conv => whnf)
  all_goals rfl
set_option maxHeartbeats 4000000 in
theorem code_5 (hk : p.kind = 5) (u out : ByteArray) (m1 : Fv Tryd.prog 97 [.int .i64 (IntKind.i64.wrap (p.delay + 1)), .int .i64 7] (.str u)) (m8 : Fv Tryd.prog 102 [.str ((a ++ b ++ c ++ k) ++ u)] (.str out)) (t1 : u.size ≤ 7) :
    Fv Tryd.prog 69 [.agg p.g] (.str out) := by
  have b1 : (p.kind == 1) = false := by simp [hk]
  have b2 : (p.kind == 2) = false := by simp [hk]
  have b4 : (p.kind == 4) = false := by simp [hk]
  have b5 : (p.kind == 5) = true := by simp [hk]
  have z1 := sz2 s1 s2 (by decide)
  have z2 := sz2 z1.2 s3 (by decide)
  have z3 := sz2 z2.2 s4 (by decide)
  have y1 := sz2 z3.2 t1 (by decide)
  refine Fv.of_awp Tryd.func69 rfl (by kernel_rfl) rfl (Nat.le_of_ble_eq_true rfl) ?_
  repeat' (conv => whnf
           first
           | (refine And.intro (by kernel_rfl) ?_)
           | (refine And.intro ⟨by kernel_rfl, by kernel_rfl⟩ ?_)
           | (refine Or.inl ⟨_, n1, ?_⟩)
           | (refine ⟨_, n1, ?_⟩)
           | (refine Or.inl ⟨_, n2, ?_⟩)
           | (refine ⟨_, n2, ?_⟩)
           | (refine Or.inl ⟨_, n3, ?_⟩)
           | (refine ⟨_, n3, ?_⟩)
           | (refine Or.inl ⟨_, n4, ?_⟩)
           | (refine ⟨_, n4, ?_⟩)
           | (refine ⟨z1.1, ?_⟩)
           | (refine ⟨z2.1, ?_⟩)
           | (refine ⟨z3.1, ?_⟩)
           | (refine cond_0 b1 ?_)
           | (refine cond_0 b2 ?_)
           | (refine cond_0 b4 ?_)
           | (refine cond_1 b5 ?_)
           | (refine Or.inl ⟨_, m1, ?_⟩)
           | (refine ⟨_, m1, ?_⟩)
           | (refine ⟨y1.1, ?_⟩)
           | (refine Or.inl ⟨_, m8, ?_⟩)
           | (refine ⟨_, m8, ?_⟩)
           | (refine cond_f ?_ ?_)
           | (refine ⟨_, ⟨by decide, rfl⟩, ?_⟩)
           | (refine cond_i (fun h => ?_) (fun h => ?_)))
  all_goals (conv => whnf)
  all_goals rfl
end
theorem head_sum (p : Packet) : headB p = numB p.kind 1 ++ numB p.from 1 ++ numB p.to 1 ++ keyB p.key := rfl
theorem seal_s (s : ByteArray) (n : Nat) (hs : s.size ≤ n) (hn : n ≤ 100000) : s.size < 4611686018427387904 := by omega
theorem head_le (p : Packet) : (headB p).size ≤ 49 := by
  have s1 := numB_le p.kind 1
  have s2 := numB_le p.from 1
  have s3 := numB_le p.to 1
  have s4 := keyB_le p.key
  unfold headB; simp only [ByteArray.size_append]; omega
theorem tail_le (p : Packet) (h : okP p = true) : (tailB p).size ≤ 1000 := by
  have q1 := numB_le p.hop 1
  have q2 := numB_le p.stamp 7
  have q4 := numB_le p.until 7
  have q5 := numB_le p.program 1
  have q6 := idB_le p.root
  have q7 := keyB_le p.parent
  have q8 := numB_le p.code 1
  have q9 := numB_le p.value 4
  have q10 := flagB_le p.more
  have q11 := numB_le (p.delay + 1) 7
  unfold tailB
  split
  · rename_i k
    have hk : okCall p = true := by
      unfold okP okKind at h
      rw [Bool.and_eq_true, if_pos k] at h
      exact h.2
    have q3 := textB_le p.timeout (dec_size ((okCall_iff p).1 hk).1.1)
    simp only [ByteArray.size_append]; omega
  · (repeat' split) <;> (try simp only [ByteArray.size_append]) <;> first | omega | (show 0 ≤ 1000; omega)
theorem code_le (p : Packet) (h : okP p = true) : (headB p ++ tailB p).size ≤ 1049 := by
  have := head_le p
  have := tail_le p h
  rw [ByteArray.size_append]; omega
theorem packet_Code (p : Packet) (h : okP p = true) : Fv Tryd.prog 69 [.agg p.g] (.str (codeP p)) := by
  have n1 := bytes_Num p.kind 1
  have n2 := bytes_Num p.from 1
  have n3 := bytes_Num p.to 1
  have n4 := ident_KeyCode p.key
  have s1 := numB_le p.kind 1
  have s2 := numB_le p.from 1
  have s3 := numB_le p.to 1
  have s4 := keyB_le p.key
  have hs := crc_Seal (headB p ++ tailB p) (by have := code_le p h; omega)
  have ok2 := h
  unfold okP at ok2
  rw [Bool.and_eq_true] at ok2
  have hk := ok2.2
  unfold okKind at hk
  have he : headB p = numB p.kind 1 ++ numB p.from 1 ++ numB p.to 1 ++ keyB p.key := rfl
  unfold codeP
  rcases kinds ok2.2 with k | k | k | k | k
  · rw [if_pos k] at hk
    have hd := dec_size ((okCall_iff p).1 hk).1.1
    refine code_1 p _ _ _ _ n1 n2 n3 n4 s1 s2 s3 s4 k _ _ _ _ _ _ _ _ (bytes_Num _ _) (bytes_Num _ _) (bytes_Text _ hd) (bytes_Num _ _) (bytes_Num _ _) (ident_Code _) (ident_KeyCode _) ?_ (numB_le _ _) (numB_le _ _) (textB_le _ hd) (numB_le _ _) (numB_le _ _) (idB_le _) (keyB_le _)
    have e : tailB p = numB p.hop 1 ++ numB p.stamp 7 ++ textB p.timeout ++ numB p.until 7 ++ numB p.program 1 ++ idB p.root ++ keyB p.parent := by unfold tailB; rw [if_pos k]
    rw [he, e] at hs ⊢
    exact hs
  · refine code_2 p _ _ _ _ n1 n2 n3 n4 s1 s2 s3 s4 k _ _ _ _ (bytes_Num _ _) (bytes_Num _ _) (bytes_Flag _) ?_ (numB_le _ _) (numB_le _ _) (flagB_le _)
    have e : tailB p = numB p.code 1 ++ numB p.value 4 ++ flagB p.more := by unfold tailB; rw [if_neg (by omega), if_pos k]
    rw [he, e] at hs ⊢
    exact hs
  · refine code_3 p _ _ _ _ n1 n2 n3 n4 s1 s2 s3 s4 k _ ?_
    have e : tailB p = ⟨#[]⟩ := by unfold tailB; rw [if_neg (by omega), if_neg (by omega), if_neg (by omega), if_neg (by omega)]
    have e2 : headB p ++ (⟨#[]⟩ : ByteArray) = headB p := ext_list (by rw [app_list]; exact List.append_nil _)
    rw [e, e2] at hs ⊢
    exact hs
  · refine code_4 p _ _ _ _ n1 n2 n3 n4 s1 s2 s3 s4 k _ _ (bytes_Num _ _) ?_ (numB_le _ _)
    have e : tailB p = numB p.until 7 := by unfold tailB; rw [if_neg (by omega), if_neg (by omega), if_pos k]
    rw [he, e] at hs ⊢
    exact hs
  · have hw : -1 ≤ p.delay ∧ p.delay ≤ 1125899906842624 := by rw [if_neg (by omega), if_neg (by omega), if_neg (by omega), if_neg (by omega), if_pos k] at hk; simpa using hk
    refine code_5 p _ _ _ _ n1 n2 n3 n4 s1 s2 s3 s4 k _ _ (bytes_Num _ _) ?_ (numB_le _ _)
    have e : tailB p = numB (p.delay + 1) 7 := by unfold tailB; rw [if_neg (by omega), if_neg (by omega), if_neg (by omega), if_pos k]
    rw [wrap_i64 ⟨by omega, by omega⟩]
    rw [he, e] at hs ⊢
    exact hs
end Go.Proofs.YtfacmphjplablaaDoor.Cn
namespace Go.Proofs.YtfacmphjplablaaDoor.Cn
open Go Go.Proofs Go.Proofs.YtfacmphjplablaaDoor.Av Go.Proofs.YtfacmphjplablaaDoor.Sp
set_option linter.unusedVariables false
set_option linter.unusedSimpArgs false
set_option linter.unusedSectionVars false
set_option maxRecDepth 100000
attribute [local irreducible] Fv Fp

theorem parse_sum (s t : ByteArray) (n0 : Fv Tryd.prog 88 [.str s] (.tup [.str t, .bool false])) : Fv Tryd.prog 68 [.str s] (.tup [.agg zP.g, .int .i64 4]) := by
  refine Fv.of_awp Tryd.func68 rfl (by kernel_rfl) rfl (Nat.le_of_ble_eq_true rfl) ?_
  repeat' (conv => whnf
           first
           | (refine And.intro (by kernel_rfl) ?_)
           | (refine And.intro ⟨by kernel_rfl, by kernel_rfl⟩ ?_)
           | (refine Or.inl ⟨_, n0, ?_⟩)
           | (refine ⟨_, n0, ?_⟩)
           | (refine cond_f ?_ ?_)
           | (refine ⟨_, ⟨by decide, rfl⟩, ?_⟩)
           | (refine cond_i (fun h => ?_) (fun h => ?_)))
  all_goals (conv => whnf)
  all_goals rfl
section
variable (s t : ByteArray) (r a b c k e : Rd) (x y z : Int) (key : Key) (ok : Bool) (n0 : Fv Tryd.prog 88 [.str s] (.tup [.str t, .bool true]))
  (n1 : Fp Tryd.prog 89 [.str t] [] [] (.ptr 0 0, [some r.gp], []))
  (m1 : Fp Tryd.prog 90 [.ptr 0 0, .int .i64 1] [r.gp] [] (.int .i64 x, [some a.gp], []))
  (m2 : Fp Tryd.prog 90 [.ptr 0 0, .int .i64 1] [a.gp] [] (.int .i64 y, [some b.gp], []))
  (m3 : Fp Tryd.prog 90 [.ptr 0 0, .int .i64 1] [b.gp] [] (.int .i64 z, [some c.gp], []))
  (m4 : Fp Tryd.prog 91 [.ptr 0 0] [c.gp] [] (.agg key.g, [some k.gp], []))
def outP (e : Int) (ok : Bool) (p : Packet) : G := .tup [.agg (bif e != 0 then zP.g else bif ok then p.g else zP.g), .int .i64 (bif e != 0 then e else bif ok then 0 else 2)]
include n0 n1 m1 m2 m3 m4
set_option maxHeartbeats 4000000 in
theorem parse_1 (h w u g i j q : Rd) (a1 a2 a4 a5 : Int) (a3 : ByteArray) (a6 : Sp.Id) (a7 : Key) (hk : x = 1)
    (m5 : Fp Tryd.prog 90 [.ptr 0 0, .int .i64 1] [k.gp] [] (.int .i64 a1, [some h.gp], []))
    (m6 : Fp Tryd.prog 90 [.ptr 0 0, .int .i64 7] [h.gp] [] (.int .i64 a2, [some w.gp], []))
    (m7 : Fp Tryd.prog 92 [.ptr 0 0] [w.gp] [] (.str a3, [some u.gp], []))
    (m8 : Fp Tryd.prog 90 [.ptr 0 0, .int .i64 7] [u.gp] [] (.int .i64 a4, [some g.gp], []))
    (m9 : Fp Tryd.prog 90 [.ptr 0 0, .int .i64 1] [g.gp] [] (.int .i64 a5, [some i.gp], []))
    (m10 : Fp Tryd.prog 93 [.ptr 0 0] [i.gp] [] (.agg a6.g, [some j.gp], []))
    (m11 : Fp Tryd.prog 91 [.ptr 0 0] [j.gp] [] (.agg a7.g, [some q.gp], []))
    (m12 : Fp Tryd.prog 96 [.ptr 0 0] [q.gp] [] (.int .i64 e.bad, [some e.gp], []))
    (n2 : Fv Tryd.prog 70 [.agg (⟨x, y, z, key, a1, a2, a3, a4, a5, a6, a7, 0, 0, false, 0⟩ : Packet).g] (.bool ok)) :
    Fv Tryd.prog 68 [.str s] (outP e.bad ok ⟨x, y, z, key, a1, a2, a3, a4, a5, a6, a7, 0, 0, false, 0⟩) := by
  have b1 : (x == 1) = true := by simp [hk]
  unfold outP
  generalize hb : (e.bad != 0) = eb
  cases eb
  · cases ok
    · refine Fv.of_awp Tryd.func68 rfl (by kernel_rfl) rfl (Nat.le_of_ble_eq_true rfl) ?_
      repeat' (conv => whnf
               first
               | (refine And.intro (by kernel_rfl) ?_)
               | (refine And.intro ⟨by kernel_rfl, by kernel_rfl⟩ ?_)
               | (refine Or.inl ⟨_, n0, ?_⟩)
               | (refine ⟨_, n0, ?_⟩)
               | (refine Or.inr ⟨_, n1, ?_⟩)
               | (refine Or.inr ⟨_, m1, ?_⟩)
               | (refine Or.inr ⟨_, m2, ?_⟩)
               | (refine Or.inr ⟨_, m3, ?_⟩)
               | (refine Or.inr ⟨_, m4, ?_⟩)
               | (refine cond_1 b1 ?_)
               | (refine Or.inr ⟨_, m5, ?_⟩)
               | (refine Or.inr ⟨_, m6, ?_⟩)
               | (refine Or.inr ⟨_, m7, ?_⟩)
               | (refine Or.inr ⟨_, m8, ?_⟩)
               | (refine Or.inr ⟨_, m9, ?_⟩)
               | (refine Or.inr ⟨_, m10, ?_⟩)
               | (refine Or.inr ⟨_, m11, ?_⟩)
               | (refine Or.inr ⟨_, m12, ?_⟩)
               | (refine cond_0 hb ?_)
               | (refine Or.inl ⟨_, n2, ?_⟩)
               | (refine ⟨_, n2, ?_⟩)
               | (refine cond_f ?_ ?_)
               | (refine ⟨_, ⟨by decide, rfl⟩, ?_⟩)
               | (refine cond_i (fun h => ?_) (fun h => ?_)))
      all_goals (conv => whnf)
      all_goals rfl
    · refine Fv.of_awp Tryd.func68 rfl (by kernel_rfl) rfl (Nat.le_of_ble_eq_true rfl) ?_
      repeat' (conv => whnf
               first
               | (refine And.intro (by kernel_rfl) ?_)
               | (refine And.intro ⟨by kernel_rfl, by kernel_rfl⟩ ?_)
               | (refine Or.inl ⟨_, n0, ?_⟩)
               | (refine ⟨_, n0, ?_⟩)
               | (refine Or.inr ⟨_, n1, ?_⟩)
               | (refine Or.inr ⟨_, m1, ?_⟩)
               | (refine Or.inr ⟨_, m2, ?_⟩)
               | (refine Or.inr ⟨_, m3, ?_⟩)
               | (refine Or.inr ⟨_, m4, ?_⟩)
               | (refine cond_1 b1 ?_)
               | (refine Or.inr ⟨_, m5, ?_⟩)
               | (refine Or.inr ⟨_, m6, ?_⟩)
               | (refine Or.inr ⟨_, m7, ?_⟩)
               | (refine Or.inr ⟨_, m8, ?_⟩)
               | (refine Or.inr ⟨_, m9, ?_⟩)
               | (refine Or.inr ⟨_, m10, ?_⟩)
               | (refine Or.inr ⟨_, m11, ?_⟩)
               | (refine Or.inr ⟨_, m12, ?_⟩)
               | (refine cond_0 hb ?_)
               | (refine Or.inl ⟨_, n2, ?_⟩)
               | (refine ⟨_, n2, ?_⟩)
               | (refine cond_f ?_ ?_)
               | (refine ⟨_, ⟨by decide, rfl⟩, ?_⟩)
               | (refine cond_i (fun h => ?_) (fun h => ?_)))
      all_goals (conv => whnf)
      all_goals rfl
  · refine Fv.of_awp Tryd.func68 rfl (by kernel_rfl) rfl (Nat.le_of_ble_eq_true rfl) ?_
    repeat' (conv => whnf
             first
             | (refine And.intro (by kernel_rfl) ?_)
             | (refine And.intro ⟨by kernel_rfl, by kernel_rfl⟩ ?_)
             | (refine Or.inl ⟨_, n0, ?_⟩)
             | (refine ⟨_, n0, ?_⟩)
             | (refine Or.inr ⟨_, n1, ?_⟩)
             | (refine Or.inr ⟨_, m1, ?_⟩)
             | (refine Or.inr ⟨_, m2, ?_⟩)
             | (refine Or.inr ⟨_, m3, ?_⟩)
             | (refine Or.inr ⟨_, m4, ?_⟩)
             | (refine cond_1 b1 ?_)
             | (refine Or.inr ⟨_, m5, ?_⟩)
             | (refine Or.inr ⟨_, m6, ?_⟩)
             | (refine Or.inr ⟨_, m7, ?_⟩)
             | (refine Or.inr ⟨_, m8, ?_⟩)
             | (refine Or.inr ⟨_, m9, ?_⟩)
             | (refine Or.inr ⟨_, m10, ?_⟩)
             | (refine Or.inr ⟨_, m11, ?_⟩)
             | (refine Or.inr ⟨_, m12, ?_⟩)
             | (refine cond_1 hb ?_)
             | (refine cond_f ?_ ?_)
             | (refine ⟨_, ⟨by decide, rfl⟩, ?_⟩)
             | (refine cond_i (fun h => ?_) (fun h => ?_)))
    all_goals (conv => whnf)
    all_goals rfl
end
end Go.Proofs.YtfacmphjplablaaDoor.Cn
namespace Go.Proofs.YtfacmphjplablaaDoor.Cn
open Go Go.Proofs Go.Proofs.YtfacmphjplablaaDoor.Av Go.Proofs.YtfacmphjplablaaDoor.Sp
set_option linter.unusedVariables false
set_option linter.unusedSimpArgs false
set_option linter.unusedSectionVars false
set_option maxRecDepth 100000
attribute [local irreducible] Fv Fp

section
variable (s t : ByteArray) (r a b c k e : Rd) (x y z : Int) (key : Key) (ok : Bool) (n0 : Fv Tryd.prog 88 [.str s] (.tup [.str t, .bool true]))
  (n1 : Fp Tryd.prog 89 [.str t] [] [] (.ptr 0 0, [some r.gp], []))
  (m1 : Fp Tryd.prog 90 [.ptr 0 0, .int .i64 1] [r.gp] [] (.int .i64 x, [some a.gp], []))
  (m2 : Fp Tryd.prog 90 [.ptr 0 0, .int .i64 1] [a.gp] [] (.int .i64 y, [some b.gp], []))
  (m3 : Fp Tryd.prog 90 [.ptr 0 0, .int .i64 1] [b.gp] [] (.int .i64 z, [some c.gp], []))
  (m4 : Fp Tryd.prog 91 [.ptr 0 0] [c.gp] [] (.agg key.g, [some k.gp], []))
include n0 n1 m1 m2 m3 m4
set_option maxHeartbeats 4000000 in
theorem parse_2 (h w q : Rd) (a1 a2 : Int) (a3 : Bool) (hk : x = 2)
    (m5 : Fp Tryd.prog 90 [.ptr 0 0, .int .i64 1] [k.gp] [] (.int .i64 a1, [some h.gp], []))
    (m6 : Fp Tryd.prog 90 [.ptr 0 0, .int .i64 4] [h.gp] [] (.int .i64 a2, [some w.gp], []))
    (m7 : Fp Tryd.prog 94 [.ptr 0 0] [w.gp] [] (.bool a3, [some q.gp], []))
    (mE : Fp Tryd.prog 96 [.ptr 0 0] [q.gp] [] (.int .i64 e.bad, [some e.gp], []))
    (n2 : Fv Tryd.prog 70 [.agg (⟨x, y, z, key, 0, 0, ⟨#[]⟩, 0, 0, zId, zKey, a1, a2, a3, 0⟩ : Packet).g] (.bool ok)) :
    Fv Tryd.prog 68 [.str s] (outP e.bad ok ⟨x, y, z, key, 0, 0, ⟨#[]⟩, 0, 0, zId, zKey, a1, a2, a3, 0⟩) := by
  have b1 : (x == 1) = false := by simp [hk]
  have b2 : (x == 2) = true := by simp [hk]
  unfold outP
  generalize hb : (e.bad != 0) = eb
  cases eb
  · cases ok
    · refine Fv.of_awp Tryd.func68 rfl (by kernel_rfl) rfl (Nat.le_of_ble_eq_true rfl) ?_
      repeat' (conv => whnf
               first
               | (refine And.intro (by kernel_rfl) ?_)
               | (refine And.intro ⟨by kernel_rfl, by kernel_rfl⟩ ?_)
               | (refine Or.inl ⟨_, n0, ?_⟩)
               | (refine ⟨_, n0, ?_⟩)
               | (refine Or.inr ⟨_, n1, ?_⟩)
               | (refine Or.inr ⟨_, m1, ?_⟩)
               | (refine Or.inr ⟨_, m2, ?_⟩)
               | (refine Or.inr ⟨_, m3, ?_⟩)
               | (refine Or.inr ⟨_, m4, ?_⟩)
               | (refine cond_0 b1 ?_)
               | (refine cond_1 b2 ?_)
               | (refine Or.inr ⟨_, m5, ?_⟩)
               | (refine Or.inr ⟨_, m6, ?_⟩)
               | (refine Or.inr ⟨_, m7, ?_⟩)
               | (refine Or.inr ⟨_, mE, ?_⟩)
               | (refine cond_0 hb ?_)
               | (refine Or.inl ⟨_, n2, ?_⟩)
               | (refine ⟨_, n2, ?_⟩)
               | (refine cond_f ?_ ?_)
               | (refine ⟨_, ⟨by decide, rfl⟩, ?_⟩)
               | (refine cond_i (fun h => ?_) (fun h => ?_)))
      all_goals (conv => whnf)
      all_goals rfl
    · refine Fv.of_awp Tryd.func68 rfl (by kernel_rfl) rfl (Nat.le_of_ble_eq_true rfl) ?_
      repeat' (conv => whnf
               first
               | (refine And.intro (by kernel_rfl) ?_)
               | (refine And.intro ⟨by kernel_rfl, by kernel_rfl⟩ ?_)
               | (refine Or.inl ⟨_, n0, ?_⟩)
               | (refine ⟨_, n0, ?_⟩)
               | (refine Or.inr ⟨_, n1, ?_⟩)
               | (refine Or.inr ⟨_, m1, ?_⟩)
               | (refine Or.inr ⟨_, m2, ?_⟩)
               | (refine Or.inr ⟨_, m3, ?_⟩)
               | (refine Or.inr ⟨_, m4, ?_⟩)
               | (refine cond_0 b1 ?_)
               | (refine cond_1 b2 ?_)
               | (refine Or.inr ⟨_, m5, ?_⟩)
               | (refine Or.inr ⟨_, m6, ?_⟩)
               | (refine Or.inr ⟨_, m7, ?_⟩)
               | (refine Or.inr ⟨_, mE, ?_⟩)
               | (refine cond_0 hb ?_)
               | (refine Or.inl ⟨_, n2, ?_⟩)
               | (refine ⟨_, n2, ?_⟩)
               | (refine cond_f ?_ ?_)
               | (refine ⟨_, ⟨by decide, rfl⟩, ?_⟩)
               | (refine cond_i (fun h => ?_) (fun h => ?_)))
      all_goals (conv => whnf)
      all_goals rfl
  · refine Fv.of_awp Tryd.func68 rfl (by kernel_rfl) rfl (Nat.le_of_ble_eq_true rfl) ?_
    repeat' (conv => whnf
             first
             | (refine And.intro (by kernel_rfl) ?_)
             | (refine And.intro ⟨by kernel_rfl, by kernel_rfl⟩ ?_)
             | (refine Or.inl ⟨_, n0, ?_⟩)
             | (refine ⟨_, n0, ?_⟩)
             | (refine Or.inr ⟨_, n1, ?_⟩)
             | (refine Or.inr ⟨_, m1, ?_⟩)
             | (refine Or.inr ⟨_, m2, ?_⟩)
             | (refine Or.inr ⟨_, m3, ?_⟩)
             | (refine Or.inr ⟨_, m4, ?_⟩)
             | (refine cond_0 b1 ?_)
             | (refine cond_1 b2 ?_)
             | (refine Or.inr ⟨_, m5, ?_⟩)
             | (refine Or.inr ⟨_, m6, ?_⟩)
             | (refine Or.inr ⟨_, m7, ?_⟩)
             | (refine Or.inr ⟨_, mE, ?_⟩)
             | (refine cond_1 hb ?_)
             | (refine cond_f ?_ ?_)
             | (refine ⟨_, ⟨by decide, rfl⟩, ?_⟩)
             | (refine cond_i (fun h => ?_) (fun h => ?_)))
    all_goals (conv => whnf)
    all_goals rfl
set_option maxHeartbeats 4000000 in
theorem parse_4 (q : Rd) (a1 : Int) (hk : x = 4)
    (m5 : Fp Tryd.prog 90 [.ptr 0 0, .int .i64 7] [k.gp] [] (.int .i64 a1, [some q.gp], []))
    (mE : Fp Tryd.prog 96 [.ptr 0 0] [q.gp] [] (.int .i64 e.bad, [some e.gp], []))
    (n2 : Fv Tryd.prog 70 [.agg (⟨x, y, z, key, 0, 0, ⟨#[]⟩, a1, 0, zId, zKey, 0, 0, false, 0⟩ : Packet).g] (.bool ok)) :
    Fv Tryd.prog 68 [.str s] (outP e.bad ok ⟨x, y, z, key, 0, 0, ⟨#[]⟩, a1, 0, zId, zKey, 0, 0, false, 0⟩) := by
  have b1 : (x == 1) = false := by simp [hk]
  have b2 : (x == 2) = false := by simp [hk]
  have b4 : (x == 4) = true := by simp [hk]
  unfold outP
  generalize hb : (e.bad != 0) = eb
  cases eb
  · cases ok
    · refine Fv.of_awp Tryd.func68 rfl (by kernel_rfl) rfl (Nat.le_of_ble_eq_true rfl) ?_
      repeat' (conv => whnf
               first
               | (refine And.intro (by kernel_rfl) ?_)
               | (refine And.intro ⟨by kernel_rfl, by kernel_rfl⟩ ?_)
               | (refine Or.inl ⟨_, n0, ?_⟩)
               | (refine ⟨_, n0, ?_⟩)
               | (refine Or.inr ⟨_, n1, ?_⟩)
               | (refine Or.inr ⟨_, m1, ?_⟩)
               | (refine Or.inr ⟨_, m2, ?_⟩)
               | (refine Or.inr ⟨_, m3, ?_⟩)
               | (refine Or.inr ⟨_, m4, ?_⟩)
               | (refine cond_0 b1 ?_)
               | (refine cond_0 b2 ?_)
               | (refine cond_1 b4 ?_)
               | (refine Or.inr ⟨_, m5, ?_⟩)
               | (refine Or.inr ⟨_, mE, ?_⟩)
               | (refine cond_0 hb ?_)
               | (refine Or.inl ⟨_, n2, ?_⟩)
               | (refine ⟨_, n2, ?_⟩)
               | (refine cond_f ?_ ?_)
               | (refine ⟨_, ⟨by decide, rfl⟩, ?_⟩)
               | (refine cond_i (fun h => ?_) (fun h => ?_)))
      all_goals (conv => whnf)
      all_goals rfl
    · refine Fv.of_awp Tryd.func68 rfl (by kernel_rfl) rfl (Nat.le_of_ble_eq_true rfl) ?_
      repeat' (conv => whnf
               first
               | (refine And.intro (by kernel_rfl) ?_)
               | (refine And.intro ⟨by kernel_rfl, by kernel_rfl⟩ ?_)
               | (refine Or.inl ⟨_, n0, ?_⟩)
               | (refine ⟨_, n0, ?_⟩)
               | (refine Or.inr ⟨_, n1, ?_⟩)
               | (refine Or.inr ⟨_, m1, ?_⟩)
               | (refine Or.inr ⟨_, m2, ?_⟩)
               | (refine Or.inr ⟨_, m3, ?_⟩)
               | (refine Or.inr ⟨_, m4, ?_⟩)
               | (refine cond_0 b1 ?_)
               | (refine cond_0 b2 ?_)
               | (refine cond_1 b4 ?_)
               | (refine Or.inr ⟨_, m5, ?_⟩)
               | (refine Or.inr ⟨_, mE, ?_⟩)
               | (refine cond_0 hb ?_)
               | (refine Or.inl ⟨_, n2, ?_⟩)
               | (refine ⟨_, n2, ?_⟩)
               | (refine cond_f ?_ ?_)
               | (refine ⟨_, ⟨by decide, rfl⟩, ?_⟩)
               | (refine cond_i (fun h => ?_) (fun h => ?_)))
      all_goals (conv => whnf)
      all_goals rfl
  · refine Fv.of_awp Tryd.func68 rfl (by kernel_rfl) rfl (Nat.le_of_ble_eq_true rfl) ?_
    repeat' (conv => whnf
             first
             | (refine And.intro (by kernel_rfl) ?_)
             | (refine And.intro ⟨by kernel_rfl, by kernel_rfl⟩ ?_)
             | (refine Or.inl ⟨_, n0, ?_⟩)
             | (refine ⟨_, n0, ?_⟩)
             | (refine Or.inr ⟨_, n1, ?_⟩)
             | (refine Or.inr ⟨_, m1, ?_⟩)
             | (refine Or.inr ⟨_, m2, ?_⟩)
             | (refine Or.inr ⟨_, m3, ?_⟩)
             | (refine Or.inr ⟨_, m4, ?_⟩)
             | (refine cond_0 b1 ?_)
             | (refine cond_0 b2 ?_)
             | (refine cond_1 b4 ?_)
             | (refine Or.inr ⟨_, m5, ?_⟩)
             | (refine Or.inr ⟨_, mE, ?_⟩)
             | (refine cond_1 hb ?_)
             | (refine cond_f ?_ ?_)
             | (refine ⟨_, ⟨by decide, rfl⟩, ?_⟩)
             | (refine cond_i (fun h => ?_) (fun h => ?_)))
    all_goals (conv => whnf)
    all_goals rfl
set_option maxHeartbeats 4000000 in
theorem parse_5 (q : Rd) (a1 : Int) (hk : x = 5)
    (m5 : Fp Tryd.prog 90 [.ptr 0 0, .int .i64 7] [k.gp] [] (.int .i64 a1, [some q.gp], []))
    (mE : Fp Tryd.prog 96 [.ptr 0 0] [q.gp] [] (.int .i64 e.bad, [some e.gp], []))
    (n2 : Fv Tryd.prog 70 [.agg (⟨x, y, z, key, 0, 0, ⟨#[]⟩, 0, 0, zId, zKey, 0, 0, false, IntKind.i64.wrap (a1 - 1)⟩ : Packet).g] (.bool ok)) :
    Fv Tryd.prog 68 [.str s] (outP e.bad ok ⟨x, y, z, key, 0, 0, ⟨#[]⟩, 0, 0, zId, zKey, 0, 0, false, IntKind.i64.wrap (a1 - 1)⟩) := by
  have b1 : (x == 1) = false := by simp [hk]
  have b2 : (x == 2) = false := by simp [hk]
  have b4 : (x == 4) = false := by simp [hk]
  have b5 : (x == 5) = true := by simp [hk]
  unfold outP
  generalize hb : (e.bad != 0) = eb
  cases eb
  · cases ok
    · refine Fv.of_awp Tryd.func68 rfl (by kernel_rfl) rfl (Nat.le_of_ble_eq_true rfl) ?_
      repeat' (conv => whnf
               first
               | (refine And.intro (by kernel_rfl) ?_)
               | (refine And.intro ⟨by kernel_rfl, by kernel_rfl⟩ ?_)
               | (refine Or.inl ⟨_, n0, ?_⟩)
               | (refine ⟨_, n0, ?_⟩)
               | (refine Or.inr ⟨_, n1, ?_⟩)
               | (refine Or.inr ⟨_, m1, ?_⟩)
               | (refine Or.inr ⟨_, m2, ?_⟩)
               | (refine Or.inr ⟨_, m3, ?_⟩)
               | (refine Or.inr ⟨_, m4, ?_⟩)
               | (refine cond_0 b1 ?_)
               | (refine cond_0 b2 ?_)
               | (refine cond_0 b4 ?_)
               | (refine cond_1 b5 ?_)
               | (refine Or.inr ⟨_, m5, ?_⟩)
               | (refine Or.inr ⟨_, mE, ?_⟩)
               | (refine cond_0 hb ?_)
               | (refine Or.inl ⟨_, n2, ?_⟩)
               | (refine ⟨_, n2, ?_⟩)
               | (refine cond_f ?_ ?_)
               | (refine ⟨_, ⟨by decide, rfl⟩, ?_⟩)
               | (refine cond_i (fun h => ?_) (fun h => ?_)))
      all_goals (conv => whnf)
      all_goals rfl
    · refine Fv.of_awp Tryd.func68 rfl (by kernel_rfl) rfl (Nat.le_of_ble_eq_true rfl) ?_
      repeat' (conv => whnf
               first
               | (refine And.intro (by kernel_rfl) ?_)
               | (refine And.intro ⟨by kernel_rfl, by kernel_rfl⟩ ?_)
               | (refine Or.inl ⟨_, n0, ?_⟩)
               | (refine ⟨_, n0, ?_⟩)
               | (refine Or.inr ⟨_, n1, ?_⟩)
               | (refine Or.inr ⟨_, m1, ?_⟩)
               | (refine Or.inr ⟨_, m2, ?_⟩)
               | (refine Or.inr ⟨_, m3, ?_⟩)
               | (refine Or.inr ⟨_, m4, ?_⟩)
               | (refine cond_0 b1 ?_)
               | (refine cond_0 b2 ?_)
               | (refine cond_0 b4 ?_)
               | (refine cond_1 b5 ?_)
               | (refine Or.inr ⟨_, m5, ?_⟩)
               | (refine Or.inr ⟨_, mE, ?_⟩)
               | (refine cond_0 hb ?_)
               | (refine Or.inl ⟨_, n2, ?_⟩)
               | (refine ⟨_, n2, ?_⟩)
               | (refine cond_f ?_ ?_)
               | (refine ⟨_, ⟨by decide, rfl⟩, ?_⟩)
               | (refine cond_i (fun h => ?_) (fun h => ?_)))
      all_goals (conv => whnf)
      all_goals rfl
  · refine Fv.of_awp Tryd.func68 rfl (by kernel_rfl) rfl (Nat.le_of_ble_eq_true rfl) ?_
    repeat' (conv => whnf
             first
             | (refine And.intro (by kernel_rfl) ?_)
             | (refine And.intro ⟨by kernel_rfl, by kernel_rfl⟩ ?_)
             | (refine Or.inl ⟨_, n0, ?_⟩)
             | (refine ⟨_, n0, ?_⟩)
             | (refine Or.inr ⟨_, n1, ?_⟩)
             | (refine Or.inr ⟨_, m1, ?_⟩)
             | (refine Or.inr ⟨_, m2, ?_⟩)
             | (refine Or.inr ⟨_, m3, ?_⟩)
             | (refine Or.inr ⟨_, m4, ?_⟩)
             | (refine cond_0 b1 ?_)
             | (refine cond_0 b2 ?_)
             | (refine cond_0 b4 ?_)
             | (refine cond_1 b5 ?_)
             | (refine Or.inr ⟨_, m5, ?_⟩)
             | (refine Or.inr ⟨_, mE, ?_⟩)
             | (refine cond_1 hb ?_)
             | (refine cond_f ?_ ?_)
             | (refine ⟨_, ⟨by decide, rfl⟩, ?_⟩)
             | (refine cond_i (fun h => ?_) (fun h => ?_)))
    all_goals (conv => whnf)
    all_goals rfl
end
end Go.Proofs.YtfacmphjplablaaDoor.Cn
namespace Go.Proofs.YtfacmphjplablaaDoor.Cn
open Go Go.Proofs Go.Proofs.YtfacmphjplablaaDoor.Av Go.Proofs.YtfacmphjplablaaDoor.Sp
set_option linter.unusedVariables false
set_option linter.unusedSimpArgs false
set_option linter.unusedSectionVars false
set_option maxRecDepth 100000
attribute [local irreducible] Fv Fp

section
variable (s t : ByteArray) (r a b c k e : Rd) (x y z : Int) (key : Key) (ok : Bool) (n0 : Fv Tryd.prog 88 [.str s] (.tup [.str t, .bool true]))
  (n1 : Fp Tryd.prog 89 [.str t] [] [] (.ptr 0 0, [some r.gp], []))
  (m1 : Fp Tryd.prog 90 [.ptr 0 0, .int .i64 1] [r.gp] [] (.int .i64 x, [some a.gp], []))
  (m2 : Fp Tryd.prog 90 [.ptr 0 0, .int .i64 1] [a.gp] [] (.int .i64 y, [some b.gp], []))
  (m3 : Fp Tryd.prog 90 [.ptr 0 0, .int .i64 1] [b.gp] [] (.int .i64 z, [some c.gp], []))
  (m4 : Fp Tryd.prog 91 [.ptr 0 0] [c.gp] [] (.agg key.g, [some k.gp], []))
include n0 n1 m1 m2 m3 m4
set_option maxHeartbeats 4000000 in
theorem parse_3 (hk : x = 3)
    (mE : Fp Tryd.prog 96 [.ptr 0 0] [k.gp] [] (.int .i64 e.bad, [some e.gp], []))
    (n2 : Fv Tryd.prog 70 [.agg (⟨x, y, z, key, 0, 0, ⟨#[]⟩, 0, 0, zId, zKey, 0, 0, false, 0⟩ : Packet).g] (.bool ok)) :
    Fv Tryd.prog 68 [.str s] (outP e.bad ok ⟨x, y, z, key, 0, 0, ⟨#[]⟩, 0, 0, zId, zKey, 0, 0, false, 0⟩) := by
  have b1 : (x == 1) = false := by simp [hk]
  have b2 : (x == 2) = false := by simp [hk]
  have b4 : (x == 4) = false := by simp [hk]
  have b5 : (x == 5) = false := by simp [hk]
  have b3 : (x == 3) = true := by simp [hk]
  unfold outP
  generalize hb : (e.bad != 0) = eb
  cases eb
  · cases ok
    · refine Fv.of_awp Tryd.func68 rfl (by kernel_rfl) rfl (Nat.le_of_ble_eq_true rfl) ?_
      repeat' (conv => whnf
               first
               | (refine And.intro (by kernel_rfl) ?_)
               | (refine And.intro ⟨by kernel_rfl, by kernel_rfl⟩ ?_)
               | (refine Or.inl ⟨_, n0, ?_⟩)
               | (refine ⟨_, n0, ?_⟩)
               | (refine Or.inr ⟨_, n1, ?_⟩)
               | (refine Or.inr ⟨_, m1, ?_⟩)
               | (refine Or.inr ⟨_, m2, ?_⟩)
               | (refine Or.inr ⟨_, m3, ?_⟩)
               | (refine Or.inr ⟨_, m4, ?_⟩)
               | (refine cond_0 b1 ?_)
               | (refine cond_0 b2 ?_)
               | (refine cond_0 b4 ?_)
               | (refine cond_0 b5 ?_)
               | (refine cond_1 b3 ?_)
               | (refine Or.inr ⟨_, mE, ?_⟩)
               | (refine cond_0 hb ?_)
               | (refine Or.inl ⟨_, n2, ?_⟩)
               | (refine ⟨_, n2, ?_⟩)
               | (refine cond_f ?_ ?_)
               | (refine ⟨_, ⟨by decide, rfl⟩, ?_⟩)
               | (refine cond_i (fun h => ?_) (fun h => ?_)))
      all_goals (conv => whnf)
      all_goals rfl
    · refine Fv.of_awp Tryd.func68 rfl (by kernel_rfl) rfl (Nat.le_of_ble_eq_true rfl) ?_
      repeat' (conv => whnf
               first
               | (refine And.intro (by kernel_rfl) ?_)
               | (refine And.intro ⟨by kernel_rfl, by kernel_rfl⟩ ?_)
               | (refine Or.inl ⟨_, n0, ?_⟩)
               | (refine ⟨_, n0, ?_⟩)
               | (refine Or.inr ⟨_, n1, ?_⟩)
               | (refine Or.inr ⟨_, m1, ?_⟩)
               | (refine Or.inr ⟨_, m2, ?_⟩)
               | (refine Or.inr ⟨_, m3, ?_⟩)
               | (refine Or.inr ⟨_, m4, ?_⟩)
               | (refine cond_0 b1 ?_)
               | (refine cond_0 b2 ?_)
               | (refine cond_0 b4 ?_)
               | (refine cond_0 b5 ?_)
               | (refine cond_1 b3 ?_)
               | (refine Or.inr ⟨_, mE, ?_⟩)
               | (refine cond_0 hb ?_)
               | (refine Or.inl ⟨_, n2, ?_⟩)
               | (refine ⟨_, n2, ?_⟩)
               | (refine cond_f ?_ ?_)
               | (refine ⟨_, ⟨by decide, rfl⟩, ?_⟩)
               | (refine cond_i (fun h => ?_) (fun h => ?_)))
      all_goals (conv => whnf)
      all_goals rfl
  · refine Fv.of_awp Tryd.func68 rfl (by kernel_rfl) rfl (Nat.le_of_ble_eq_true rfl) ?_
    repeat' (conv => whnf
             first
             | (refine And.intro (by kernel_rfl) ?_)
             | (refine And.intro ⟨by kernel_rfl, by kernel_rfl⟩ ?_)
             | (refine Or.inl ⟨_, n0, ?_⟩)
             | (refine ⟨_, n0, ?_⟩)
             | (refine Or.inr ⟨_, n1, ?_⟩)
             | (refine Or.inr ⟨_, m1, ?_⟩)
             | (refine Or.inr ⟨_, m2, ?_⟩)
             | (refine Or.inr ⟨_, m3, ?_⟩)
             | (refine Or.inr ⟨_, m4, ?_⟩)
             | (refine cond_0 b1 ?_)
             | (refine cond_0 b2 ?_)
             | (refine cond_0 b4 ?_)
             | (refine cond_0 b5 ?_)
             | (refine cond_1 b3 ?_)
             | (refine Or.inr ⟨_, mE, ?_⟩)
             | (refine cond_1 hb ?_)
             | (refine cond_f ?_ ?_)
             | (refine ⟨_, ⟨by decide, rfl⟩, ?_⟩)
             | (refine cond_i (fun h => ?_) (fun h => ?_)))
    all_goals (conv => whnf)
    all_goals rfl
set_option maxHeartbeats 4000000 in
theorem parse_0 (q : Rd) (hk : x ≠ 1 ∧ x ≠ 2 ∧ x ≠ 3 ∧ x ≠ 4 ∧ x ≠ 5)
    (m5 : Fp Tryd.prog 95 [.ptr 0 0, .int .i64 9] [k.gp] [] (.tup [], [some q.gp], []))
    (mE : Fp Tryd.prog 96 [.ptr 0 0] [q.gp] [] (.int .i64 e.bad, [some e.gp], []))
    (n2 : Fv Tryd.prog 70 [.agg (⟨x, y, z, key, 0, 0, ⟨#[]⟩, 0, 0, zId, zKey, 0, 0, false, 0⟩ : Packet).g] (.bool ok)) :
    Fv Tryd.prog 68 [.str s] (outP e.bad ok ⟨x, y, z, key, 0, 0, ⟨#[]⟩, 0, 0, zId, zKey, 0, 0, false, 0⟩) := by
  have b1 : (x == 1) = false := by simp; omega
  have b2 : (x == 2) = false := by simp; omega
  have b4 : (x == 4) = false := by simp; omega
  have b5 : (x == 5) = false := by simp; omega
  have b3 : (x == 3) = false := by simp; omega
  unfold outP
  generalize hb : (e.bad != 0) = eb
  cases eb
  · cases ok
    · refine Fv.of_awp Tryd.func68 rfl (by kernel_rfl) rfl (Nat.le_of_ble_eq_true rfl) ?_
      repeat' (conv => whnf
               first
               | (refine And.intro (by kernel_rfl) ?_)
               | (refine And.intro ⟨by kernel_rfl, by kernel_rfl⟩ ?_)
               | (refine Or.inl ⟨_, n0, ?_⟩)
               | (refine ⟨_, n0, ?_⟩)
               | (refine Or.inr ⟨_, n1, ?_⟩)
               | (refine Or.inr ⟨_, m1, ?_⟩)
               | (refine Or.inr ⟨_, m2, ?_⟩)
               | (refine Or.inr ⟨_, m3, ?_⟩)
               | (refine Or.inr ⟨_, m4, ?_⟩)
               | (refine cond_0 b1 ?_)
               | (refine cond_0 b2 ?_)
               | (refine cond_0 b4 ?_)
               | (refine cond_0 b5 ?_)
               | (refine cond_0 b3 ?_)
               | (refine Or.inr ⟨_, m5, ?_⟩)
               | (refine Or.inr ⟨_, mE, ?_⟩)
               | (refine cond_0 hb ?_)
               | (refine Or.inl ⟨_, n2, ?_⟩)
               | (refine ⟨_, n2, ?_⟩)
               | (refine cond_f ?_ ?_)
               | (refine ⟨_, ⟨by decide, rfl⟩, ?_⟩)
               | (refine cond_i (fun h => ?_) (fun h => ?_)))
      all_goals (conv => whnf)
      all_goals rfl
    · refine Fv.of_awp Tryd.func68 rfl (by kernel_rfl) rfl (Nat.le_of_ble_eq_true rfl) ?_
      repeat' (conv => whnf
               first
               | (refine And.intro (by kernel_rfl) ?_)
               | (refine And.intro ⟨by kernel_rfl, by kernel_rfl⟩ ?_)
               | (refine Or.inl ⟨_, n0, ?_⟩)
               | (refine ⟨_, n0, ?_⟩)
               | (refine Or.inr ⟨_, n1, ?_⟩)
               | (refine Or.inr ⟨_, m1, ?_⟩)
               | (refine Or.inr ⟨_, m2, ?_⟩)
               | (refine Or.inr ⟨_, m3, ?_⟩)
               | (refine Or.inr ⟨_, m4, ?_⟩)
               | (refine cond_0 b1 ?_)
               | (refine cond_0 b2 ?_)
               | (refine cond_0 b4 ?_)
               | (refine cond_0 b5 ?_)
               | (refine cond_0 b3 ?_)
               | (refine Or.inr ⟨_, m5, ?_⟩)
               | (refine Or.inr ⟨_, mE, ?_⟩)
               | (refine cond_0 hb ?_)
               | (refine Or.inl ⟨_, n2, ?_⟩)
               | (refine ⟨_, n2, ?_⟩)
               | (refine cond_f ?_ ?_)
               | (refine ⟨_, ⟨by decide, rfl⟩, ?_⟩)
               | (refine cond_i (fun h => ?_) (fun h => ?_)))
      all_goals (conv => whnf)
      all_goals rfl
  · refine Fv.of_awp Tryd.func68 rfl (by kernel_rfl) rfl (Nat.le_of_ble_eq_true rfl) ?_
    repeat' (conv => whnf
             first
             | (refine And.intro (by kernel_rfl) ?_)
             | (refine And.intro ⟨by kernel_rfl, by kernel_rfl⟩ ?_)
             | (refine Or.inl ⟨_, n0, ?_⟩)
             | (refine ⟨_, n0, ?_⟩)
             | (refine Or.inr ⟨_, n1, ?_⟩)
             | (refine Or.inr ⟨_, m1, ?_⟩)
             | (refine Or.inr ⟨_, m2, ?_⟩)
             | (refine Or.inr ⟨_, m3, ?_⟩)
             | (refine Or.inr ⟨_, m4, ?_⟩)
             | (refine cond_0 b1 ?_)
             | (refine cond_0 b2 ?_)
             | (refine cond_0 b4 ?_)
             | (refine cond_0 b5 ?_)
             | (refine cond_0 b3 ?_)
             | (refine Or.inr ⟨_, m5, ?_⟩)
             | (refine Or.inr ⟨_, mE, ?_⟩)
             | (refine cond_1 hb ?_)
             | (refine cond_f ?_ ?_)
             | (refine ⟨_, ⟨by decide, rfl⟩, ?_⟩)
             | (refine cond_i (fun h => ?_) (fun h => ?_)))
    all_goals (conv => whnf)
    all_goals rfl
end
theorem rd_gp0 (t : ByteArray) : (⟨t, 0, 0⟩ : Rd).gp = [.str t, .int .i64 0] := by
  have e : (⟨t, 0, 0⟩ : Rd).p = t := by show t.extract 0 t.size = t; exact ByteArray.extract_zero_size
  unfold Rd.gp; rw [e]
theorem packet_Parse (s : ByteArray) (hs : s.size < 4611686018427387904) : Fv Tryd.prog 68 [.str s] (.tup [.agg (parseP s).1.g, .int .i64 (parseP s).2]) := by
  have n0 := crc_Open s hs
  unfold parseP
  generalize openB s = o at *
  obtain ⟨t, b⟩ := o
  simp only at n0 ⊢
  cases b
  · rw [if_pos rfl]; exact parse_sum s t n0
  rw [if_neg (by simp)]
  have n1 := pr_Open t
  rw [← rd_gp0] at n1
  have hr : (⟨t, 0, 0⟩ : Rd).ok := Nat.zero_le _
  generalize (⟨t, 0, 0⟩ : Rd) = r at *
  have key : Fv Tryd.prog 68 [.str s] (outP (rEnd (readP r).1).bad (okP (readP r).2) (readP r).2) := by
    have h1 := rNum_ok r 1 hr
    have h2 := rNum_ok _ 1 h1
    have h3 := rNum_ok _ 1 h2
    have h4 := rKey_ok _ h3
    have m1 := pr_Num r 1 hr
    have m2 := pr_Num _ 1 h1
    have m3 := pr_Num _ 1 h2
    have m4 := ident_ReadKey _ h3
    unfold readP
    simp only
    by_cases k1 : (rNum r 1).2 = 1
    · rw [if_pos k1]
      have h5 := rNum_ok _ 1 h4
      have h6 := rNum_ok _ 7 h5
      have h7 := rText_ok _ h6
      have h8 := rNum_ok _ 7 h7
      have h9 := rNum_ok _ 1 h8
      have h10 := rId_ok _ h9
      have h11 := rKey_ok _ h10
      exact parse_1 s t _ _ _ _ _ _ _ _ _ _ _ n0 n1 m1 m2 m3 m4 _ _ _ _ _ _ _ _ _ _ _ _ _ _ k1 (pr_Num _ 1 h4) (pr_Num _ 7 h5) (pr_Text _ h6) (pr_Num _ 7 h7) (pr_Num _ 1 h8) (ident_Read _ h9) (ident_ReadKey _ h10) (pr_End _ h11) (packet_Right _)
    rw [if_neg k1]
    by_cases k2 : (rNum r 1).2 = 2
    · rw [if_pos k2]
      have h5 := rNum_ok _ 1 h4
      have h6 := rNum_ok _ 4 h5
      have h7 := rFlag_ok _ h6
      exact parse_2 s t _ _ _ _ _ _ _ _ _ _ _ n0 n1 m1 m2 m3 m4 _ _ _ _ _ _ k2 (pr_Num _ 1 h4) (pr_Num _ 4 h5) (pr_Flag _ h6) (pr_End _ h7) (packet_Right _)
    rw [if_neg k2]
    by_cases k4 : (rNum r 1).2 = 4
    · rw [if_pos k4]
      have h5 := rNum_ok _ 7 h4
      exact parse_4 s t _ _ _ _ _ _ _ _ _ _ _ n0 n1 m1 m2 m3 m4 _ _ k4 (pr_Num _ 7 h4) (pr_End _ h5) (packet_Right _)
    rw [if_neg k4]
    by_cases k5 : (rNum r 1).2 = 5
    · rw [if_pos k5]
      have h5 := rNum_ok _ 7 h4
      have hb : 0 ≤ (rNum (rKey (rNum (rNum (rNum r 1).1 1).1 1).1).1 7).2 ∧ (rNum (rKey (rNum (rNum (rNum r 1).1 1).1 1).1).1 7).2 < 72057594037927936 := by
        generalize (rKey (rNum (rNum (rNum r 1).1 1).1 1).1).1 = q
        unfold rNum
        rw [if_neg (by omega)]
        (repeat' split) <;> first
          | (show (0 : Int) ≤ 0 ∧ (0 : Int) < _; omega)
          | exact numOf_bd _ _ 7
      have hw : IntKind.i64.wrap ((rNum (rKey (rNum (rNum (rNum r 1).1 1).1 1).1).1 7).2 - 1) = (rNum (rKey (rNum (rNum (rNum r 1).1 1).1 1).1).1 7).2 - 1 := wrap_i64 ⟨by omega, by omega⟩
      have := parse_5 s t _ _ _ _ _ _ _ _ _ _ _ n0 n1 m1 m2 m3 m4 _ _ k5 (pr_Num _ 7 h4) (pr_End _ h5) (packet_Right _)
      rw [hw] at this
      exact this
    rw [if_neg k5]
    by_cases k3 : (rNum r 1).2 = 3
    · rw [if_pos k3]
      exact parse_3 s t _ _ _ _ _ _ _ _ _ _ _ n0 n1 m1 m2 m3 m4 k3 (pr_End _ h4) (packet_Right _)
    rw [if_neg k3]
    exact parse_0 s t _ _ _ _ _ _ _ _ _ _ _ n0 n1 m1 m2 m3 m4 _ ⟨k1, k2, k3, k4, k5⟩ (pr_Fail _ 9) (pr_End _ (rFail_ok _ _ h4)) (packet_Right _)
  by_cases e : (rEnd (readP r).1).bad = 0
  · rw [if_neg (by simp [e])]
    unfold outP at key
    have eb : ((rEnd (readP r).1).bad != 0) = false := by simp [e]
    rw [eb] at key
    cases ho : okP (readP r).2 with
    | true => rw [ho] at key; rw [if_neg (by simp)]; exact key
    | false => rw [ho] at key; rw [if_pos rfl]; exact key
  · rw [if_pos e]
    unfold outP at key
    have eb : ((rEnd (readP r).1).bad != 0) = true := by simp [e]
    rw [eb] at key
    exact key
end Go.Proofs.YtfacmphjplablaaDoor.Cn
namespace Go.Proofs.YtfacmphjplablaaDoor.Sp
open Go Go.Proofs.YtfacmphjplablaaDoor.Av
set_option linter.unusedVariables false

def txt (n : Int) (c : UInt8) : ByteArray := strL (Lib.decDigits n.toNat ++ [c])
def enc (t : Int) : ByteArray :=
  if clamp t ≤ 99999999 then txt (clamp t) 117
  else if clamp t / 1000 ≤ 99999999 then txt (clamp t / 1000) 109
  else if clamp t / 1000000 ≤ 99999999 then txt (clamp t / 1000000) 83
  else if clamp t / 60000000 ≤ 99999999 then txt (clamp t / 60000000) 77
  else txt (clamp t / 3600000000) 72
def cut (t : Int) : Int := (dec (enc t)).1
end Go.Proofs.YtfacmphjplablaaDoor.Sp
namespace Go.Proofs.YtfacmphjplablaaDoor.Sp
open Go Go.Proofs.YtfacmphjplablaaDoor.Av
set_option linter.unusedVariables false

theorem dd_small {n : Nat} (h : n < 10) : Lib.decDigits n = [UInt8.ofNat (48 + n)] := by rw [Lib.decDigits]; rw [dif_pos h]
theorem dd_more {n : Nat} (h : ¬ n < 10) : Lib.decDigits n = Lib.decDigits (n / 10) ++ [UInt8.ofNat (48 + n % 10)] := by rw [Lib.decDigits]; rw [dif_neg h]
theorem dd_len : ∀ (k n : Nat), n < 10 ^ (k + 1) → 1 ≤ (Lib.decDigits n).length ∧ (Lib.decDigits n).length ≤ k + 1
  | 0, n, h => by rw [dd_small (by simpa using h)]; simp
  | k + 1, n, h => by
    by_cases h1 : n < 10
    · rw [dd_small h1]; simp
    · rw [dd_more h1]
      have := dd_len k (n / 10) (by rw [Nat.pow_succ] at h; omega)
      simp only [List.length_append, List.length_cons, List.length_nil]; omega
theorem u8_small {n : Nat} (h : n < 256) : (UInt8.ofNat n).toNat = n := by rw [UInt8.toNat_ofNat']; exact Nat.mod_eq_of_lt h
theorem dd_dig (n : Nat) : ∀ b ∈ Lib.decDigits n, 48 ≤ b.toNat ∧ b.toNat ≤ 57 := by
  induction n using Nat.strongRecOn with
  | _ n ih =>
    intro b hb
    by_cases h : n < 10
    · rw [dd_small h] at hb
      rw [List.mem_singleton.1 hb, u8_small (by omega)]; omega
    · rw [dd_more h] at hb
      rcases List.mem_append.1 hb with hb | hb
      · exact ih (n / 10) (by omega) b hb
      · rw [List.mem_singleton.1 hb, u8_small (by omega)]; omega
def stp (a : Int) (b : UInt8) : Int := a * 10 + ((b.toNat : Int) - 48)
theorem dd_val (n : Nat) : (Lib.decDigits n).foldl stp 0 = n := by
  induction n using Nat.strongRecOn with
  | _ n ih =>
    by_cases h : n < 10
    · rw [dd_small h]
      simp only [List.foldl_cons, List.foldl_nil, stp, u8_small (show 48 + n < 256 by omega)]; omega
    · rw [dd_more h, List.foldl_append, ih (n / 10) (by omega)]
      simp only [List.foldl_cons, List.foldl_nil, stp, u8_small (show 48 + n % 10 < 256 by omega)]; omega
theorem byteAt_get (s : ByteArray) (k : Nat) (h : k < s.data.toList.length) : byteAt s k = ((s.data.toList[k]).toNat : Int) := by
  unfold byteAt; rw [List.getD_eq_getElem?_getD, List.getElem?_eq_getElem h]; rfl
theorem decN_take (s : ByteArray) : ∀ (k : Nat), k ≤ s.data.toList.length → decN s k = (s.data.toList.take k).foldl stp 0
  | 0, _ => rfl
  | k + 1, h => by
    rw [decN_succ, decN_take s k (by omega), List.take_succ_eq_append_getElem (by omega), List.foldl_append, byteAt_get s k (by omega)]
    rfl
theorem okD_take (s : ByteArray) (k : Nat) (h : k ≤ s.data.toList.length) (hd : ∀ b ∈ s.data.toList.take k, 48 ≤ b.toNat ∧ b.toNat ≤ 57) : okD s k = true := by
  unfold okD
  rw [List.all_eq_true]
  intro i hi
  have hi : i < k := by simpa using hi
  unfold dig
  have := hd (s.data.toList[i]'(by omega)) (List.mem_of_getElem? (i := i) (by rw [List.getElem?_take, if_pos hi]; exact List.getElem?_eq_getElem (by omega)))
  rw [byteAt_get s i (by omega)]
  simp only [decide_eq_true_eq]; omega
theorem txt_size {n : Int} (h : 0 ≤ n ∧ n ≤ 99999999) (c : UInt8) : 2 ≤ (txt n c).size ∧ (txt n c).size ≤ 9 := by
  have := dd_len 7 n.toNat (by omega)
  unfold txt; rw [strL_size, List.length_append]; simp only [List.length_cons, List.length_nil]; omega
theorem txt_last (n : Int) (c : UInt8) : byteAt (txt n c) ((txt n c).size - 1) = (c.toNat : Int) := by
  unfold txt
  rw [strL_size, List.length_append, byteAt_strL]
  simp only [List.length_cons, List.length_nil, Nat.add_sub_cancel]
  rw [List.getD_eq_getElem?_getD, List.getElem?_append_right (Nat.le_refl _)]
  simp
theorem mulT_id {n u : Int} (h1 : 0 ≤ n) (h2 : 0 ≤ u) (h3 : n ≤ 1125899906842624) (h4 : u ≤ 1125899906842624) (h5 : n * u ≤ 1125899906842624) : mulT n u = n * u := by
  unfold mulT
  rw [clamp_id ⟨h1, h3⟩, clamp_id ⟨h2, h4⟩, clamp_id ⟨Int.mul_nonneg h1 h2, h5⟩]
theorem dec_txt {n : Int} (h : 0 ≤ n ∧ n ≤ 99999999) (c : UInt8) (hc : (c.toNat : Int) ≠ 110) (hu : unitI c.toNat ≠ 0) (hm : n * unitI c.toNat ≤ 1125899906842624) : dec (txt n c) = (n * unitI c.toNat, 0) := by
  have hz := txt_size h c
  have hl := txt_last n c
  have hsz : (txt n c).size - 1 = (Lib.decDigits n.toNat).length := by unfold txt; rw [strL_size, List.length_append]; simp
  have htk : (txt n c).data.toList.take ((txt n c).size - 1) = Lib.decDigits n.toNat := by
    rw [hsz]; unfold txt; rw [strL_list, List.take_left]
  have hlen : (txt n c).size - 1 ≤ (txt n c).data.toList.length := by rw [size_list]; omega
  have hok : okD (txt n c) ((txt n c).size - 1) = true := okD_take _ _ hlen (by rw [htk]; exact dd_dig _)
  have hN : decN (txt n c) ((txt n c).size - 1) = n := by rw [decN_take _ _ hlen, htk, dd_val]; omega
  have hub := unit_bd c.toNat
  unfold dec
  rw [if_neg (by omega), if_neg (by rw [hok]; simp), hl, if_neg hc, if_neg hu, hN, mulT_id h.1 hub.1 (by omega) (by omega) hm]
/-- The unit of a time's text. -/
def un (c : Int) : Int := if c ≤ 99999999 then 1 else if c / 1000 ≤ 99999999 then 1000 else if c / 1000000 ≤ 99999999 then 1000000 else 60000000
def uc (c : Int) : UInt8 := if c ≤ 99999999 then 117 else if c / 1000 ≤ 99999999 then 109 else if c / 1000000 ≤ 99999999 then 83 else 77
theorem enc_eq (t : Int) : enc t = txt (clamp t / un (clamp t)) (uc (clamp t)) := by
  have hc := clamp_bd t
  unfold enc un uc
  split
  · rw [Int.ediv_one]
  · split
    · rfl
    · split
      · rfl
      · rw [if_pos (by omega)]
theorem uc_facts (c : Int) : unitI (uc c).toNat = un c ∧ ((uc c).toNat : Int) ≠ 110 ∧ (un c = 1 ∨ un c = 1000 ∨ un c = 1000000 ∨ un c = 60000000) := by
  unfold uc un
  (repeat' split) <;> exact ⟨by decide, by decide, by decide⟩
theorem un_quot {c : Int} (h : 0 ≤ c ∧ c ≤ 1125899906842624) : 0 ≤ c / un c ∧ c / un c ≤ 99999999 ∧ c / un c * un c ≤ c ∧ c - c / un c * un c < un c ∧ 0 ≤ c / un c * un c := by
  unfold un
  (repeat' split) <;> omega
theorem dec_enc (t : Int) : dec (enc t) = (clamp t / un (clamp t) * un (clamp t), 0) := by
  have hc := clamp_bd t
  obtain ⟨q1, q2, q3, q4, q5⟩ := un_quot hc
  obtain ⟨u1, u2, u3⟩ := uc_facts (clamp t)
  rw [enc_eq, dec_txt ⟨q1, q2⟩ _ u2 (by rw [u1]; omega) (by rw [u1]; omega), u1]
theorem cut_eq (t : Int) : cut t = clamp t / un (clamp t) * un (clamp t) := by unfold cut; rw [dec_enc]
theorem cut_bd (t : Int) : 0 ≤ cut t ∧ cut t ≤ clamp t ∧ clamp t - cut t < un (clamp t) := by
  obtain ⟨q1, q2, q3, q4, q5⟩ := un_quot (clamp_bd t)
  rw [cut_eq]; omega
theorem un_again {c : Int} (h : 0 ≤ c ∧ c ≤ 1125899906842624) : c / un c * un c / un (c / un c * un c) * un (c / un c * un c) = c / un c * un c := by
  unfold un
  (repeat' split) <;> omega
theorem cut_cut (t : Int) : cut (cut t) = cut t := by
  have hb := cut_bd t
  have hc := clamp_bd t
  have e : clamp (cut t) = cut t := clamp_id (by omega)
  rw [cut_eq (cut t), e, cut_eq t]
  exact un_again hc
theorem cut_small (t : Int) (h : clamp t ≤ 99999999) : cut t = clamp t := by
  rw [cut_eq]; unfold un; rw [if_pos h]; omega
theorem clamp_mono {a b : Int} (h : a ≤ b) : clamp a ≤ clamp b := by unfold clamp; (repeat' split) <;> omega
theorem un_le {x y : Int} (hx : 0 ≤ x) (hxy : x ≤ y) (hy : y ≤ 1125899906842624) : x / un x * un x ≤ y / un y * un y ∨ 100000000000000 ≤ y := by
  unfold un
  (repeat' split) <;> omega
theorem cut_rise {a b : Int} (h : a ≤ b) : cut a ≤ cut b ∨ 100000000000000 ≤ clamp b := by
  rw [cut_eq, cut_eq]
  exact un_le (clamp_bd a).1 (clamp_mono h) (clamp_bd b).2
theorem enc_size (t : Int) : 2 ≤ (enc t).size ∧ (enc t).size ≤ 9 := by
  obtain ⟨q1, q2, _⟩ := un_quot (clamp_bd t)
  rw [enc_eq]; exact txt_size ⟨q1, q2⟩ _
theorem enc_unit (t : Int) : unitI (byteAt (enc t) ((enc t).size - 1)) = un (clamp t) := by
  rw [enc_eq, txt_last, (uc_facts (clamp t)).1]
/-! Budgets. -/
def dl (a : Int) (s : ByteArray) : Int × Int := if (dec s).2 ≠ 0 then (0, (dec s).2) else (add a (dec s).1, 0)
def enoughD (d n l : Int) : Bool := decide (sub d n > 0) && decide (sub d n ≥ clamp l)
def next (d n : Int) : Int := add n (cut (sub d n))
theorem sub_bd (a b : Int) : 0 ≤ sub a b ∧ sub a b ≤ 1125899906842624 := by have := clamp_bd a; have := clamp_bd b; unfold sub; split <;> omega
theorem dl_enc (a t : Int) : dl a (enc t) = (add a (cut t), 0) := by
  unfold dl; rw [dec_enc]; simp only [ne_eq, not_true_eq_false, if_false]; rw [← cut_eq]
theorem next_clamp (d n : Int) : next (clamp d) n = next d n := by unfold next sub; rw [clamp_clamp]
theorem next_bd (d n : Int) : clamp (next d n) = next d n := by unfold next add; rw [clamp_clamp]
theorem next_past {d n : Int} (h : clamp d ≤ clamp n) : next d n = clamp n ∧ sub d n = 0 := by
  have hs : sub d n = 0 := by unfold sub; split <;> omega
  refine ⟨?_, hs⟩
  unfold next
  have hc0 : cut 0 = 0 := by rw [cut_eq]; decide
  rw [hs, hc0]
  unfold add
  rw [show clamp 0 = 0 from by decide, Int.add_zero, clamp_clamp]
theorem next_ahead {d n : Int} (h : clamp n < clamp d) : next d n = clamp n + cut (clamp d - clamp n) ∧ sub d n = clamp d - clamp n ∧ clamp (clamp d - clamp n) = clamp d - clamp n := by
  have hd := clamp_bd d
  have hn := clamp_bd n
  have hs : sub d n = clamp d - clamp n := by unfold sub; split <;> omega
  have hc : clamp (clamp d - clamp n) = clamp d - clamp n := clamp_id (by omega)
  refine ⟨?_, hs, hc⟩
  have hb := cut_bd (clamp d - clamp n)
  rw [hc] at hb
  unfold next add
  rw [hs, clamp_id (n := cut _) (by omega), clamp_id (by omega)]
theorem next_le {d n : Int} (h : clamp n ≤ d) (hd : 0 ≤ d ∧ d ≤ 1125899906842624) : next d n ≤ d ∧ 0 ≤ next d n := by
  have hn := clamp_bd n
  have ed := clamp_id hd
  by_cases h1 : clamp d ≤ clamp n
  · have := (next_past h1).1; omega
  · obtain ⟨e, _, hc⟩ := next_ahead (d := d) (n := n) (by omega)
    have hb := cut_bd (clamp d - clamp n)
    rw [hc] at hb
    omega
end Go.Proofs.YtfacmphjplablaaDoor.Sp
namespace Go.Proofs.YtfacmphjplablaaDoor.Sp
open Go Go.Proofs.YtfacmphjplablaaDoor.Av
set_option linter.unusedVariables false

structure Config where
  nodes : Int
  skew : Int
  lease : Int
  grain : Int
  least : Int
  hops : Int
  cap : Int
  fan : Int
  attempts : Int
  base : Int
  most : Int
  wait : Int
  tokens : Int
  programs : List (List Pop)
def Config.g (c : Config) : List G := [.int .i64 c.nodes, .int .i64 c.skew, .int .i64 c.lease, .int .i64 c.grain, .int .i64 c.least, .int .i64 c.hops, .int .i64 c.cap, .int .i64 c.fan, .int .i64 c.attempts, .int .i64 c.base, .int .i64 c.most, .int .i64 c.wait, .int .i64 c.tokens,
  .sl (c.programs.map fun l => [.sl (l.map Pop.g)])]
structure Facts where
  code : Int
  att : Int
  committed : Bool
  push : Int
  have' : Int
  now : Int
  deadline : Int
  jitter : Int
def Facts.g (f : Facts) : List G := [.int .i64 f.code, .int .i64 f.att, .bool f.committed, .int .i64 f.push, .int .i64 f.have', .int .i64 f.now, .int .i64 f.deadline, .int .i64 f.jitter]

def mul (a n : Int) : Int := if clamp a * clamp n > 1125899906842624 then 1125899906842624 else clamp a * clamp n
theorem mul_bd (a n : Int) : 0 ≤ mul a n ∧ mul a n ≤ 1125899906842624 := by
  have := Int.mul_nonneg (clamp_bd a).1 (clamp_bd n).1
  unfold mul; split <;> omega
theorem add_bd (a b : Int) : 0 ≤ add a b ∧ add a b ≤ 1125899906842624 := clamp_bd _
def hopsI (h : Int) : Int := if 16 < (if 0 > h then 0 else h) then 16 else (if 0 > h then 0 else h)
theorem hopsI_bd (h : Int) : 0 ≤ hopsI h ∧ hopsI h ≤ 16 := by unfold hopsI; (repeat' split) <;> omega
def mostSt (p : Int) : Nat → Int × Int
  | 0 => (0, 1)
  | k + 1 => (add (mostSt p k).1 (mul (mostSt p k).2 p), mul (mostSt p k).2 p)
def mostN (c : Config) : Int := (mostSt (mul c.fan c.attempts) (hopsI c.hops).toNat).1

/-! The same without a bound. -/
def exLv (p : Int) : Nat → Int
  | 0 => 1
  | k + 1 => exLv p k * p
def exAll (p : Int) : Nat → Int
  | 0 => 0
  | k + 1 => exAll p k + exLv p (k + 1)
def mn (n : Int) : Int := if n > 1125899906842624 then 1125899906842624 else n
theorem exLv_nn {p : Int} (hp : 0 ≤ p) : ∀ k, 0 ≤ exLv p k
  | 0 => by show (0 : Int) ≤ 1; omega
  | k + 1 => Int.mul_nonneg (exLv_nn hp k) hp
theorem exAll_nn {p : Int} (hp : 0 ≤ p) : ∀ k, 0 ≤ exAll p k
  | 0 => Int.le_refl _
  | k + 1 => Int.add_nonneg (exAll_nn hp k) (exLv_nn hp (k + 1))
theorem clamp_mn {n : Int} (h : 0 ≤ n) : clamp n = mn n := by unfold clamp mn; (repeat' split) <;> omega
theorem mn_bd {n : Int} (h : 0 ≤ n) : 0 ≤ mn n ∧ mn n ≤ 1125899906842624 := by unfold mn; split <;> omega
theorem mostSt_ex {p : Int} (hp : 0 ≤ p ∧ p ≤ 1125899906842624) : ∀ k, mostSt p k = (mn (exAll p k), mn (exLv p k))
  | 0 => by show ((0 : Int), (1 : Int)) = (mn 0, mn 1); rfl
  | k + 1 => by
    have ih := mostSt_ex hp k
    have n1 := exLv_nn hp.1 k
    have n2 := exAll_nn hp.1 k
    have n3 := exLv_nn hp.1 (k + 1)
    have em : mul (mn (exLv p k)) p = mn (exLv p (k + 1)) := by
      unfold mul
      rw [clamp_id (mn_bd n1), clamp_id hp]
      show _ = mn (exLv p k * p)
      by_cases h0 : p = 0
      · subst h0; simp [mn]
      by_cases hl : exLv p k > 1125899906842624
      · have e : mn (exLv p k) = 1125899906842624 := by unfold mn; rw [if_pos hl]
        rw [e]
        have h1 : exLv p k * 1 ≤ exLv p k * p := Int.mul_le_mul_of_nonneg_left (by omega) n1
        have h2 : mn (exLv p k * p) = 1125899906842624 := by unfold mn; rw [if_pos (by omega)]
        rw [h2]
        split <;> omega
      · have e : mn (exLv p k) = exLv p k := by unfold mn; rw [if_neg hl]
        rw [e]; rfl
    show (add (mostSt p k).1 (mul (mostSt p k).2 p), mul (mostSt p k).2 p) = _
    rw [ih]
    simp only
    rw [em]
    refine Prod.ext ?_ rfl
    show add (mn (exAll p k)) (mn (exLv p (k + 1))) = mn (exAll p k + exLv p (k + 1))
    unfold add
    rw [clamp_id (mn_bd n2), clamp_id (mn_bd n3), clamp_mn (Int.add_nonneg (mn_bd n2).1 (mn_bd n3).1)]
    generalize exAll p k = x at *
    generalize exLv p (k + 1) = y at *
    unfold mn
    (repeat' split) <;> omega
theorem exAll_next (p : Int) : ∀ k, exAll p (k + 1) = p * (exAll p k + 1)
  | 0 => by show 0 + 1 * p = p * (0 + 1); omega
  | k + 1 => by
    have ih := exAll_next p k
    show exAll p (k + 1) + exLv p (k + 1) * p = p * (exAll p k + exLv p (k + 1) + 1)
    rw [ih, show exAll p k + exLv p (k + 1) + 1 = (exAll p k + 1) + exLv p (k + 1) by omega, Int.mul_add p (exAll p k + 1) (exLv p (k + 1)), Int.mul_comm p (exLv p (k + 1))]
theorem exLv_mono {p q : Int} (hp : 0 ≤ p) (h : p ≤ q) : ∀ k, exLv p k ≤ exLv q k
  | 0 => Int.le_refl _
  | k + 1 => Int.mul_le_mul (exLv_mono hp h k) h hp (exLv_nn (by omega) k)
theorem exAll_mono {p q : Int} (hp : 0 ≤ p) (h : p ≤ q) : ∀ k, exAll p k ≤ exAll q k
  | 0 => Int.le_refl _
  | k + 1 => Int.add_le_add (exAll_mono hp h k) (exLv_mono hp h (k + 1))
theorem mn_mono {a b : Int} (h : a ≤ b) : mn a ≤ mn b := by unfold mn; (repeat' split) <;> omega

theorem grows (c : Config) (h1 : 0 ≤ c.fan ∧ c.fan ≤ 1000) (h2 : 0 ≤ c.attempts ∧ c.attempts ≤ 1000) (h3 : 0 ≤ c.hops ∧ c.hops ≤ 15) (deep wide : Config)
    (hd : deep = { c with hops := IntKind.i64.wrap (c.hops + 1) }) (hw : wide = { c with fan := IntKind.i64.wrap (c.fan + 1) }) :
    0 ≤ mostN c ∧ mostN c ≤ mostN deep ∧ mostN c ≤ mostN wide ∧ (c.hops = 0 → mostN c = 0) ∧
    (mostN deep = 1125899906842624 ∨ mostN deep = IntKind.i64.wrap (IntKind.i64.wrap (c.fan * c.attempts) * IntKind.i64.wrap (mostN c + 1))) := by
  subst hd; subst hw
  unfold mostN
  simp only
  rw [wrap_i64 (n := c.hops + 1) (by omega), wrap_i64 (n := c.fan + 1) (by omega)]
  have hp0 : 0 ≤ c.fan * c.attempts := Int.mul_nonneg h1.1 h2.1
  have hp1 : c.fan * c.attempts ≤ 1000 * 1000 := Int.mul_le_mul h1.2 h2.2 h2.1 (by omega)
  have hq1 : (c.fan + 1) * c.attempts ≤ 1001 * 1000 := Int.mul_le_mul (by omega) h2.2 h2.1 (by omega)
  have hpq : c.fan * c.attempts ≤ (c.fan + 1) * c.attempts := Int.mul_le_mul_of_nonneg_right (by omega) h2.1
  have e1 : mul c.fan c.attempts = c.fan * c.attempts := by unfold mul; rw [clamp_id (by omega), clamp_id (by omega), if_neg (by omega)]
  have e2 : mul (c.fan + 1) c.attempts = (c.fan + 1) * c.attempts := by unfold mul; rw [clamp_id (by omega), clamp_id (by omega), if_neg (by omega)]
  rw [e1, e2, wrap_i64 (n := c.fan * c.attempts) (by omega)]
  generalize c.fan * c.attempts = p at *
  generalize (c.fan + 1) * c.attempts = q at *
  have e3 : (hopsI (c.hops + 1)).toNat = (hopsI c.hops).toNat + 1 := by unfold hopsI; (repeat' split) <;> omega
  have e4 : c.hops = 0 → (hopsI c.hops).toNat = 0 := by intro h; rw [h]; rfl
  rw [e3]
  generalize (hopsI c.hops).toNat = k at *
  rw [mostSt_ex ⟨hp0, by omega⟩, mostSt_ex ⟨hp0, by omega⟩, mostSt_ex ⟨by omega, by omega⟩]
  simp only
  have n1 := exAll_nn hp0 k
  have n2 := exAll_nn hp0 (k + 1)
  have n3 := exLv_nn hp0 (k + 1)
  have n4 := exAll_next p k
  have hle : exAll p k ≤ exAll p (k + 1) := by show _ ≤ exAll p k + exLv p (k + 1); omega
  refine ⟨(mn_bd n1).1, mn_mono hle, mn_mono (exAll_mono hp0 hpq k), fun h => by rw [e4 h]; rfl, ?_⟩
  by_cases hb : exAll p (k + 1) > 1125899906842624
  · left; unfold mn; rw [if_pos hb]
  · right
    have q1 : mn (exAll p k) = exAll p k := by unfold mn; rw [if_neg (by omega)]
    have q2 : mn (exAll p (k + 1)) = exAll p (k + 1) := by unfold mn; rw [if_neg hb]
    rw [q1, q2, wrap_i64 (n := exAll p k + 1) (by omega), ← n4, wrap_i64 (by omega)]

def tFull (t : Int) : Int := (if 1000 < (if 1 > t then 1 else t) then 1000 else (if 1 > t then 1 else t)) * 1000
theorem tFull_bd (t : Int) : 1000 ≤ tFull t ∧ tFull t ≤ 1000000 := by unfold tFull; (repeat' split) <;> omega
def tClean (h t : Int) : Int := if tFull t < (if 0 > h then 0 else h) then tFull t else (if 0 > h then 0 else h)
theorem tClean_bd (h t : Int) : 0 ≤ tClean h t ∧ tClean h t ≤ 1000000 := by have := tFull_bd t; unfold tClean; (repeat' split) <;> omega
def tMay (h t : Int) : Bool := decide (2 * tClean h t > tFull t)
def enough (a b c : Int) : Bool := decide (sub a b > 0) && decide (sub a b ≥ clamp c)
end Go.Proofs.YtfacmphjplablaaDoor.Sp
namespace Go.Proofs.YtfacmphjplablaaDoor.Sp
open Go Go.Proofs.YtfacmphjplablaaDoor.Av
set_option linter.unusedVariables false

def dbl (b : Int) : Nat → Int
  | 0 => b
  | k + 1 => add (dbl b k) (dbl b k)
def attI (a : Int) : Int := if 64 < (if 1 > a then 1 else a) - 1 then 64 else (if 1 > a then 1 else a) - 1
theorem attI_bd (a : Int) : 0 ≤ attI a ∧ attI a ≤ 64 := by unfold attI; (repeat' split) <;> omega
theorem dbl_bd {b : Int} (h : 0 ≤ b ∧ b ≤ 1125899906842624) : ∀ k, 0 ≤ dbl b k ∧ dbl b k ≤ 1125899906842624
  | 0 => h
  | k + 1 => add_bd _ _
theorem dbl_le {b : Int} (h : 0 ≤ b ∧ b ≤ 1125899906842624) (k : Nat) : ∀ j, dbl b k ≤ dbl b (k + j)
  | 0 => Int.le_refl _
  | j + 1 => by
    have h1 := dbl_le h k j
    have h2 := dbl_bd h (k + j)
    show _ ≤ add (dbl b (k + j)) (dbl b (k + j))
    unfold add
    rw [clamp_id h2]
    unfold clamp
    (repeat' split) <;> omega
def stepB (b m a : Int) : Int := if dbl (clamp b) (attI a).toNat > clamp m then clamp m else dbl (clamp b) (attI a).toNat
theorem stepB_bd (b m a : Int) : 0 ≤ stepB b m a ∧ stepB b m a ≤ 1125899906842624 := by
  have h1 := clamp_bd m
  have h2 := dbl_bd (clamp_bd b) (attI a).toNat
  unfold stepB; split <;> omega
def jit (j : Int) : Int := if 1000 < (if 0 > j then 0 else j) then 1000 else (if 0 > j then 0 else j)
theorem jit_bd (j : Int) : 0 ≤ jit j ∧ jit j ≤ 1000 := by unfold jit; (repeat' split) <;> omega
def delay (b m a j : Int) : Int := stepB b m a - stepB b m a / 2 * jit j / 1000
theorem delay_parts (e j : Int) (he : 0 ≤ e) (hj : 0 ≤ j) : e / 1000 * j + e % 1000 * j / 1000 = e * j / 1000 := by
  have h1 := Int.mul_ediv_add_emod e 1000
  have h2 : e * j = e % 1000 * j + 1000 * (e / 1000 * j) := by
    rw [← Int.mul_assoc, ← Int.add_mul]
    congr 1
    omega
  rw [h2, Int.add_mul_ediv_left _ _ (by omega)]; omega
def ready (c : Config) (f : Facts) : Int := if f.push ≥ 0 then add f.now f.push else add f.now (delay c.base c.most f.att f.jitter)
def decideP (c : Config) (f : Facts) : Int × Int :=
  if ¬ (f.code = 14 ∨ f.code = 8) then (1, 0)
  else if f.committed = true then (2, 0)
  else if f.att ≥ c.attempts then (3, 0)
  else if f.push = -1 then (4, 0)
  else if tMay f.have' c.tokens = false then (5, 0)
  else if enough f.deadline (ready c f) c.least = false then (6, 0)
  else (0, ready c f)

def cBegin (c : Call) (now : Int) : Call := if (c.state = 0 ∨ c.state = 2) ∧ c.att < 5 then { c with att := IntKind.i64.wrap (c.att + 1), state := 1, sent := clamp now, ready := 0, tries := IntKind.i64.wrap (c.tries + 1) } else c
def cEnds (c : Call) (n : Int) : Call := if c.state = 3 then c else { c with state := 3, code := clean n, value := 0, ready := 0 }
def cGood (c : Call) (v : Int) : Call := if c.state = 1 then { c with state := 3, code := clean 0, value := value v, ready := 0 } else c
def cTaken (c : Call) : Call := if c.state = 1 then { c with committed := true } else c
def cBad (c : Call) (conf : Config) (f : Facts) : Call × Int :=
  if c.state = 1 then
    if (decideP conf { f with att := c.att, committed := c.committed }).1 = 0 then ({ c with state := 2, ready := (decideP conf { f with att := c.att, committed := c.committed }).2 }, 0)
    else ({ c with state := 3, code := clean f.code, value := 0, ready := 0 }, (decideP conf { f with att := c.att, committed := c.committed }).1)
  else (c, 1)
def cLost (c : Call) (now wait grain : Int) : Bool := c.state == 1 && past now (add c.sent wait) grain
def cRested (c : Call) (now grain : Int) : Bool := c.state == 2 && past now c.ready grain
structure Deed21 where
  kind : Int
  n : Int
  f : Facts
def Deed21.g (d : Deed21) : List G := [.int .i64 d.kind, .int .i64 d.n, .int .i64 d.f.code, .int .i64 d.f.att, .bool d.f.committed, .int .i64 d.f.push, .int .i64 d.f.have', .int .i64 d.f.now, .int .i64 d.f.deadline, .int .i64 d.f.jitter]
def cStep (c : Call) (conf : Config) (d : Deed21) : Call × Int :=
  if d.kind = 0 ∨ d.kind = 1 ∨ d.kind = 2 then (cBegin c d.n, 0)
  else if d.kind = 3 then (cGood c d.n, 0)
  else if d.kind = 4 then (cTaken c, 0)
  else if d.kind = 5 ∨ d.kind = 6 ∨ d.kind = 7 then cBad c conf d.f
  else if d.kind = 8 then (cEnds c d.n, 0)
  else (c, 0)
theorem wrap_le (n : Int) : IntKind.i64.wrap n ≤ 9223372036854775807 := by
  unfold IntKind.wrap IntKind.bits IntKind.signed
  simp only [Bool.true_and]
  split
  · rename_i h; simp at h ⊢; omega
  · rename_i h; simp at h ⊢; omega
theorem cStep_att (c : Call) (conf : Config) (d : Deed21) (h : c.att ≤ 9223372036854775807) : (cStep c conf d).1.att ≤ 9223372036854775807 := by
  have hw := wrap_le (c.att + 1)
  unfold cStep cBegin cGood cTaken cBad cEnds
  (repeat' split) <;> first | exact h | exact hw
end Go.Proofs.YtfacmphjplablaaDoor.Sp
namespace Go.Proofs.YtfacmphjplablaaDoor.Sp
open Go Go.Proofs.YtfacmphjplablaaDoor.Av

def callP (me : Int) (o : Owner) (x b : Call) (n u : Int) (e : ByteArray) : Packet :=
  ⟨1, me, x.to, ⟨b.id, b.att⟩, IntKind.i64.wrap (o.hop + 1), n, e, u, x.program, o.root, o.key, 0, 0, false, 0⟩
def sendF (c : Config) (me : Int) (o : Owner) (x : Call) (now : Int) : Call × Packet :=
  if cBegin x now = x then (x, zP) else if o.hop ≥ c.hops then (cEnds x 8, zP) else if enough o.deadline now c.least = false then (cEnds x 4, zP)
  else (cBegin x now, callP me o x (cBegin x now) (clamp now) (clamp o.until) (enc (sub o.deadline now)))
def tBad (h t : Int) : Int := if tClean h t < 1000 then 0 else tClean h t - 1000
def x32 (m n : Int) : Int := IntKind.u32.wrap (BitVec.ofInt IntKind.u32.bits m ^^^ BitVec.ofInt IntKind.u32.bits n).toNat
def m32 (m n : Int) : Int := IntKind.u32.wrap (IntKind.u32.wrap m * n)
def jh (a b c : Int) : Int := x32 (x32 (m32 a 2654435761) (m32 b 40503)) (m32 c 2246822519)
def jitter (a b c : Int) : Int := IntKind.i64.wrap (((x32 (jh a b c) (jh a b c / 32768)).tmod 1001))
def factsF (c : Config) (me : Int) (o : Owner) (x : Call) (now have' n push : Int) : Facts := ⟨n, 0, false, push, tBad have' c.tokens, now, o.deadline, jitter me x.id.seq x.att⟩
def failF (c : Config) (me : Int) (o : Owner) (x : Call) (now have' n push : Int) : Call × Int :=
  if x.state = 1 then ((cBad x c (factsF c me o x now have' n push)).1, tBad have' c.tokens) else (x, have')
def settle (o : Owner) (now : Int) : Int × Int × Bool :=
  if o.key.att ≠ 0 ∨ o.calls.length = 0 ∨ openN o.calls ≠ 0 then (0, 0, false)
  else if worst o.calls = 0 then (0, sum o.calls 0, true)
  else if worst o.calls = 4 then (if clamp now < clamp o.deadline then (0, 0, false) else (4, 0, true))
  else if worst o.calls = 1 then (13, 0, true) else (worst o.calls, 0, true)
def waitP (kind me u : Int) (c : Call) : Packet := { zP with kind := kind, «from» := me, to := c.to, key := ⟨c.id, c.att⟩, «until» := u }
def waitL (kind me u : Int) (l : List Call) : List Packet := (l.filter (fun c => c.state == 1)).map (waitP kind me u)
theorem waitL_snoc (kind me u : Int) (l : List Call) (k : Nat) (hk : k < l.length) : waitL kind me u (l.take (k + 1)) = if l[k].state = 1 then waitL kind me u (l.take k) ++ [waitP kind me u l[k]] else waitL kind me u (l.take k) := by
  unfold waitL
  rw [take_at hk, List.filter_append, List.map_append]
  by_cases h : l[k].state = 1
  · rw [if_pos h]; simp [List.filter, h]
  · have hb : (l[k].state == 1) = false := beq_eq_false_iff_ne.2 h
    rw [if_neg h]; simp [List.filter, hb]
theorem waitL_len (kind me u : Int) (l : List Call) : (waitL kind me u l).length ≤ l.length := by
  unfold waitL; rw [List.length_map]; exact List.length_filter_le _ _
end Go.Proofs.YtfacmphjplablaaDoor.Sp
