
/- Owners and calls as plain data, and what the functions on owners answer. No condition. -/
import Derived.Test.YtcihkmnolagdlaaDoorSp1
namespace Go.Proofs.YtcihkmnolagdlaaDoor.Sp
open Go Go.Proofs.YtcihkmnolagdlaaDoor.Av
set_option linter.unusedVariables false

structure Id where
  node : Int
  inc : Int
  seq : Int
deriving DecidableEq
structure Key where
  id : Id
  att : Int
deriving DecidableEq
structure Call where
  id : Id
  to : Int
  program : Int
  att : Int
  state : Int
  sent : Int
  ready : Int
  committed : Bool
  code : Int
  value : Int
  tries : Int
deriving DecidableEq
structure Owner where
  key : Key
  root : Id
  parent : Key
  «from» : Int
  hop : Int
  deadline : Int
  «until» : Int
  program : Int
  pc : Int
  done : Int
  calls : List Call
deriving DecidableEq
structure Pop where
  kind : Int
  a : Int
  b : Int
deriving DecidableEq
def Id.g (d : Id) : List G := [.int .i64 d.node, .int .i64 d.inc, .int .i64 d.seq]
def Key.g (k : Key) : List G := [.int .i64 k.id.node, .int .i64 k.id.inc, .int .i64 k.id.seq, .int .i64 k.att]
def Call.g (c : Call) : List G := [.int .i64 c.id.node, .int .i64 c.id.inc, .int .i64 c.id.seq, .int .i64 c.to, .int .i64 c.program, .int .i64 c.att, .int .i64 c.state, .int .i64 c.sent, .int .i64 c.ready, .bool c.committed, .int .i64 c.code, .int .i64 c.value, .int .i64 c.tries]
def Owner.g (o : Owner) : List G := [.int .i64 o.key.id.node, .int .i64 o.key.id.inc, .int .i64 o.key.id.seq, .int .i64 o.key.att, .int .i64 o.root.node, .int .i64 o.root.inc, .int .i64 o.root.seq,
  .int .i64 o.parent.id.node, .int .i64 o.parent.id.inc, .int .i64 o.parent.id.seq, .int .i64 o.parent.att, .int .i64 o.from, .int .i64 o.hop, .int .i64 o.deadline, .int .i64 o.until, .int .i64 o.program, .int .i64 o.pc, .int .i64 o.done, .sl (o.calls.map Call.g)]
def Pop.g (o : Pop) : List G := [.int .i64 o.kind, .int .i64 o.a, .int .i64 o.b]

def ownerEnds (o : Owner) : Int := if o.key.att = 0 then clamp o.deadline else leaseEnds o.deadline o.until
def ownerOver (o : Owner) (now : Int) : Int := leaseOver now o.deadline (if o.key.att = 0 then 1125899906842624 else o.until)
def open1 (n : Int) (c : Call) : Int := if c.state = 3 then n else n + 1
def openN (l : List Call) : Int := l.foldl open1 0
def worst1 (c : Int) (x : Call) : Int := if x.state = 3 then join c x.code else c
def worst (l : List Call) : Int := l.foldl worst1 0
def value (n : Int) : Int := if n < 0 then 0 else if n > 2147483647 then 2147483647 else n
def sum1 (n : Int) (c : Call) : Int := (n + value c.value) % 2147483648
def sum (l : List Call) (n : Int) : Int := l.foldl sum1 (value n)
def findI (l : List Call) (d : Id) : Int := match l.findIdx? (fun c => c.id == d) with | some i => (i : Int) | none => -1
theorem fold_at {α β : Type} {f : β → α → β} {b : β} {l : List α} {k : Nat} (hk : k < l.length) : (l.take (k + 1)).foldl f b = f ((l.take k).foldl f b) l[k] := by
  rw [List.take_succ_eq_append_getElem hk, List.foldl_append]; rfl
theorem fold_all {α β : Type} {f : β → α → β} {b : β} {l : List α} : (l.take l.length).foldl f b = l.foldl f b := by rw [List.take_length]
theorem openN_bd (l : List Call) : 0 ≤ openN l ∧ openN l ≤ l.length := by
  have key : ∀ (l : List Call) (n : Int), n ≤ l.foldl open1 n ∧ l.foldl open1 n ≤ n + l.length := by
    intro l
    induction l with
    | nil => intro n; simp
    | cons c l ih =>
      intro n
      have := ih (open1 n c)
      have h1 : n ≤ open1 n c ∧ open1 n c ≤ n + 1 := by unfold open1; split <;> omega
      simp only [List.foldl_cons, List.length_cons]
      omega
  have := key l 0
  unfold openN
  omega
theorem value_bd (n : Int) : 0 ≤ value n ∧ value n ≤ 2147483647 := by unfold value; (repeat' split) <;> omega
theorem sum_bd (l : List Call) (n : Int) : 0 ≤ sum l n ∧ sum l n ≤ 2147483647 := by
  have key : ∀ (l : List Call) (n : Int), 0 ≤ n ∧ n ≤ 2147483647 → 0 ≤ l.foldl sum1 n ∧ l.foldl sum1 n ≤ 2147483647 := by
    intro l
    induction l with
    | nil => intro n h; exact h
    | cons c l ih => intro n h; exact ih _ (by unfold sum1; have := value_bd c.value; omega)
  exact key l _ (value_bd n)

structure Deed where
  kind : Int
  a : Int
  b : Int
deriving DecidableEq
def Deed.g (o : Deed) : List G := [.int .i64 o.kind, .int .i64 o.a, .int .i64 o.b]
def nextO (o : Owner) : Owner := { o with pc := IntKind.i64.wrap (o.pc + 1), done := 0 }
def stepOp (o : Owner) (op : Pop) : Owner × Deed :=
  if op.kind = 1 then (if IntKind.i64.wrap (o.done + 1) ≥ op.a then nextO { o with done := IntKind.i64.wrap (o.done + 1) } else { o with done := IntKind.i64.wrap (o.done + 1) }, ⟨0, 0, 0⟩)
  else if op.kind = 2 then (nextO o, ⟨2, op.a, op.b⟩)
  else if op.kind = 3 then
    if openN o.calls > 0 then (o, ⟨1, 0, 0⟩) else if worst o.calls = 0 then (nextO o, ⟨0, 0, 0⟩) else (o, ⟨5, worst o.calls, 0⟩)
  else if op.kind = 4 then (nextO o, ⟨3, 0, 0⟩)
  else if op.kind = 5 then (o, ⟨4, sum o.calls op.a, 0⟩)
  else if op.kind = 6 then (o, ⟨5, clean op.a, 0⟩)
  else if op.kind = 7 then (o, ⟨6, if op.a < -1 then -1 else op.a, 0⟩)
  else (o, ⟨5, 13, 0⟩)
def stepO (o : Owner) (l : List Pop) : Owner × Deed :=
  if 0 ≤ o.pc then match l[o.pc.toNat]? with
    | some op => stepOp o op
    | none => (o, ⟨4, sum o.calls 0, 0⟩)
  else (o, ⟨4, sum o.calls 0, 0⟩)

def opRight (o : Pop) (nodes programs : Int) : Bool :=
  if o.kind ≠ 2 ∧ o.b ≠ 0 then false
  else if o.kind = 1 then decide (o.a ≥ 1) && decide (o.a ≤ 1000)
  else if o.kind = 2 then decide (o.a ≥ 0) && decide (o.a < nodes) && decide (o.b ≥ 0) && decide (o.b < programs)
  else if o.kind = 3 ∨ o.kind = 4 then decide (o.a = 0)
  else if o.kind = 5 then decide (o.a ≥ 0) && decide (o.a ≤ 2147483647)
  else if o.kind = 6 then decide (o.a ≥ 1) && decide (o.a ≤ 16)
  else if o.kind = 7 then decide (o.a ≥ -1) && decide (o.a ≤ 1000000)
  else false
def opsRight (l : List Pop) (nodes programs : Int) : Bool := l.all (fun o => opRight o nodes programs) && decide (l.length ≤ 16)
def unit1 (n : Int) (o : Pop) : Int := n + if o.kind = 1 then (if o.a < 0 then 0 else if o.a > 1000 then 1000 else o.a) else 1
def units (l : List Pop) : Int := l.foldl unit1 0
theorem units_bd (l : List Pop) : 0 ≤ units l ∧ units l ≤ 1000 * l.length := by
  have key : ∀ (l : List Pop) (n : Int), n ≤ l.foldl unit1 n ∧ l.foldl unit1 n ≤ n + 1000 * l.length := by
    intro l
    induction l with
    | nil => intro n; simp
    | cons c l ih =>
      intro n
      have := ih (unit1 n c)
      have h1 : n ≤ unit1 n c ∧ unit1 n c ≤ n + 1000 := by unfold unit1; (repeat' split) <;> omega
      simp only [List.foldl_cons, List.length_cons]
      omega
  have := key l 0
  unfold units
  omega
theorem units_le (l : List Pop) (j : Nat) : units (l.take j) ≤ units l := by
  have key : ∀ (l : List Pop) (n : Int), n ≤ l.foldl unit1 n := by
    intro l
    induction l with
    | nil => intro n; simp
    | cons c l ih =>
      intro n
      have := ih (unit1 n c)
      have h1 : n ≤ unit1 n c := by unfold unit1; (repeat' split) <;> omega
      simp only [List.foldl_cons]
      omega
  have e : units l = (l.drop j).foldl unit1 (units (l.take j)) := by unfold units; rw [← List.foldl_append, List.take_append_drop]
  rw [e]; exact key _ _
theorem units_at {l : List Pop} {k : Nat} (hk : k < l.length) : units (l.take (k + 1)) = unit1 (units (l.take k)) l[k] := by unfold units; exact fold_at hk
def o0 (pc done : Int) : Owner := ⟨⟨⟨0, 0, 0⟩, 0⟩, ⟨0, 0, 0⟩, ⟨⟨0, 0, 0⟩, 0⟩, 0, 0, 0, 0, 0, pc, done, []⟩
def EndI (l : List Pop) (k : Nat) (pc done : Int) : Prop :=
  ∃ p : Nat, pc = p ∧ p ≤ l.length ∧ 0 ≤ done ∧ (k : Int) = units (l.take p) + done ∧ (done = 0 ∨ ∃ op, l[p]? = some op ∧ op.kind = 1 ∧ done < op.a)
theorem opRight_of {l : List Pop} (h : opsRight l 3 2 = true) {p : Nat} {op : Pop} (hp : l[p]? = some op) : opRight op 3 2 = true := by
  unfold opsRight at h
  simp only [Bool.and_eq_true, List.all_eq_true] at h
  exact h.1 _ (List.mem_of_getElem? hp)
theorem opRight_work {o : Pop} {n p : Int} (h : opRight o n p = true) (h1 : o.kind = 1) : 1 ≤ o.a ∧ o.a ≤ 1000 := by
  unfold opRight at h
  split at h
  · cases h
  · simp at h; omega
theorem opRight_kinds {o : Pop} {n p : Int} (h : opRight o n p = true) : 1 ≤ o.kind ∧ o.kind ≤ 7 := by
  unfold opRight at h
  (repeat' split at h) <;> first | omega | cases h
theorem units_at' {l : List Pop} {k : Nat} {op : Pop} (hk : l[k]? = some op) : units (l.take (k + 1)) = unit1 (units (l.take k)) op := by
  obtain ⟨h1, rfl⟩ := List.getElem?_eq_some_iff.1 hk
  exact units_at h1
theorem endI_le {l : List Pop} {k : Nat} {pc done : Int} (h : opsRight l 3 2 = true) (hI : EndI l k pc done) : (k : Int) ≤ units l := by
  obtain ⟨p, rfl, h1, h2, h3, h4⟩ := hI
  rcases h4 with rfl | ⟨op, hp, h5, h6⟩
  · have := units_le l p; omega
  · have := units_le l (p + 1)
    have ha := opRight_work (opRight_of h hp) h5
    rw [units_at' hp] at this
    unfold unit1 at this
    rw [if_pos h5, if_neg (by omega), if_neg (by omega)] at this
    omega
theorem endI_step {l : List Pop} {k : Nat} {pc done : Int} (h : opsRight l 3 2 = true) (hn : ∀ o ∈ l, o.kind ≠ 2) (hI : EndI l k pc done) :
    (∃ kd x y o', (kd = 4 ∨ kd = 5 ∨ kd = 6) ∧ stepO (o0 pc done) l = (o', ⟨kd, x, y⟩)) ∨
    (∃ kd x y pc' done', (kd = 0 ∨ kd = 3) ∧ stepO (o0 pc done) l = (o0 pc' done', ⟨kd, x, y⟩) ∧ (pc' = pc → done' = done + 1) ∧ EndI l (k + 1) pc' done') := by
  obtain ⟨p, rfl, h1, h2, h3, h4⟩ := hI
  have hlen : l.length ≤ 16 := by unfold opsRight at h; simp only [Bool.and_eq_true, decide_eq_true_eq] at h; exact h.2
  have e0 : stepO (o0 p done) l = match l[p]? with | some op => stepOp (o0 p done) op | none => (o0 p done, ⟨4, sum [] 0, 0⟩) := by
    unfold stepO
    show (if 0 ≤ (p : Int) then _ else _) = _
    rw [if_pos (by omega)]
    rfl
  rw [e0]
  cases hp : l[p]? with
  | none => exact .inl ⟨4, sum [] 0, 0, o0 p done, .inl rfl, rfl⟩
  | some op =>
    have hlt : p < l.length := (List.getElem?_eq_some_iff.1 hp).1
    have hr := opRight_of h hp
    have hk := hn _ (List.mem_of_getElem? hp)
    have hu := units_at' hp
    have h4' : done = 0 ∨ (op.kind = 1 ∧ done < op.a) := h4.imp_right fun ⟨q, hq, h5, h6⟩ => by rw [hp] at hq; cases hq; exact ⟨h5, h6⟩
    clear h4
    have hkd := opRight_kinds hr
    have hw : IntKind.i64.wrap ((p : Int) + 1) = (p : Int) + 1 := wrap_i64 (by omega)
    have hnext : ∀ d, nextO (o0 p d) = o0 ((p : Int) + 1) 0 := fun d => by
      unfold nextO
      show o0 (IntKind.i64.wrap ((p : Int) + 1)) 0 = _
      rw [hw]
    simp only
    by_cases c1 : op.kind = 1
    · right
      have ha := opRight_work hr c1
      have hd : done < op.a := by omega
      have hwd : IntKind.i64.wrap (done + 1) = done + 1 := wrap_i64 (by omega)
      have hs : stepOp (o0 p done) op = (if done + 1 ≥ op.a then o0 ((p : Int) + 1) 0 else o0 p (done + 1), ⟨0, 0, 0⟩) := by
        unfold stepOp
        rw [if_pos c1]
        show (if IntKind.i64.wrap (done + 1) ≥ op.a then nextO (o0 p (IntKind.i64.wrap (done + 1))) else o0 p (IntKind.i64.wrap (done + 1)), _) = _
        rw [hwd, hnext]
      rw [hs]
      by_cases c2 : done + 1 ≥ op.a
      · rw [if_pos c2]
        refine ⟨0, 0, 0, _, _, .inl rfl, rfl, by omega, p + 1, by omega, hlt, by omega, ?_, .inl rfl⟩
        rw [hu]; unfold unit1
        rw [if_pos c1, if_neg (by omega), if_neg (by omega)]
        omega
      · rw [if_neg c2]
        exact ⟨0, 0, 0, _, _, .inl rfl, rfl, fun _ => rfl, p, rfl, h1, by omega, by omega, .inr ⟨op, hp, c1, by omega⟩⟩
    · have hd0 : done = 0 := by omega
      subst hd0
      have nx : EndI l (k + 1) ((p : Int) + 1) 0 := by
        refine ⟨p + 1, by omega, hlt, by omega, ?_, .inl rfl⟩
        rw [hu]; unfold unit1
        rw [if_neg c1]
        omega
      by_cases c3 : op.kind = 3
      · right
        have hs : stepOp (o0 p 0) op = (o0 ((p : Int) + 1) 0, ⟨0, 0, 0⟩) := by
          unfold stepOp
          rw [if_neg c1, if_neg hk, if_pos c3, hnext]
          rfl
        rw [hs]
        exact ⟨0, 0, 0, _, _, .inl rfl, rfl, by omega, nx⟩
      by_cases c4 : op.kind = 4
      · right
        have hs : stepOp (o0 p 0) op = (o0 ((p : Int) + 1) 0, ⟨3, 0, 0⟩) := by
          unfold stepOp
          rw [if_neg c1, if_neg hk, if_neg c3, if_pos c4, hnext]
        rw [hs]
        exact ⟨3, 0, 0, _, _, .inr rfl, rfl, by omega, nx⟩
      left
      unfold stepOp
      rw [if_neg c1, if_neg hk, if_neg c3, if_neg c4]
      by_cases c5 : op.kind = 5
      · rw [if_pos c5]; exact ⟨4, _, _, _, .inl rfl, rfl⟩
      by_cases c6 : op.kind = 6
      · rw [if_neg c5, if_pos c6]; exact ⟨5, _, _, _, .inr (.inl rfl), rfl⟩
      · rw [if_neg c5, if_neg c6, if_pos (by omega)]; exact ⟨6, _, _, _, .inr (.inr rfl), rfl⟩
theorem endI_zero (l : List Pop) : EndI l 0 0 0 := ⟨0, rfl, Nat.zero_le _, by omega, by rfl, .inl rfl⟩
end Go.Proofs.YtcihkmnolagdlaaDoor.Sp
