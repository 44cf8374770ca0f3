/- Code with regions whose order is drawn. No condition. -/
import Derived.Test.YtcihkmnolagdlaaDoorAv13
namespace Go.Proofs.YtcihkmnolagdlaaDoor.Av
open Go Go.RowKit
set_option linter.unusedVariables false
set_option linter.unusedSimpArgs false

/-! Which operations are bound ahead of which: a number a row, its bits. -/
def befStep (es : List Edge) (acc : List Nat) : Nat → Nat :=
  fun s => es.foldl (fun s e => if Region.binds .any e then s ||| 2 ^ e.on ||| acc.getD e.on 0 else s) s
def forceN (n : Nat) (k : Nat → List Nat) : List Nat :=
  match n with
  | 0 => k 0
  | m + 1 => k (m + 1)
def bef : List Oper → List Nat → List Nat
  | [], acc => acc
  | o :: rest, acc => forceN (befStep o.after.toList acc 0) fun n => bef rest (acc ++ [n])
theorem forceN_eq (n : Nat) (k : Nat → List Nat) : forceN n k = k n := by cases n <;> rfl

theorem bef_anc {ops : Array Oper} : ∀ (rest : List Oper) (acc : List Nat), ops.toList.drop acc.length = rest → (∀ j i, (acc.getD j 0).testBit i = true → Anc ops i j) → ∀ j i, ((bef rest acc).getD j 0).testBit i = true → Anc ops i j
  | [], acc, _, h => h
  | o :: rest, acc, hd, h => by
    unfold bef
    rw [forceN_eq]
    have ho : ops[acc.length]? = some o := by
      have := congrArg (fun l => l[0]?) hd
      simp only [List.getElem?_drop, List.getElem?_cons_zero, Nat.add_zero] at this
      simpa using this
    refine bef_anc rest _ ?_ ?_
    · have := congrArg (List.drop 1) hd
      simpa [List.drop_drop] using this
    · intro j i hj
      by_cases hlt : j < acc.length
      · rw [List.getD_eq_getElem?_getD, List.getElem?_append_left hlt, ← List.getD_eq_getElem?_getD] at hj
        exact h j i hj
      · by_cases he : j = acc.length
        · subst he
          rw [List.getD_eq_getElem?_getD, List.getElem?_append_right (Nat.le_refl _)] at hj
          simp only [Nat.sub_self, List.getElem?_cons_zero, Option.getD_some] at hj
          have key : ∀ (es : List Edge) (s : Nat), (∀ e ∈ es, e ∈ o.after) → (∀ i, s.testBit i = true → Anc ops i acc.length) → ∀ i, (befStep es acc s).testBit i = true → Anc ops i acc.length := by
            intro es
            induction es with
            | nil => intro s _ hs i hi; exact hs i hi
            | cons e es ih =>
              intro s hm hs i hi
              unfold befStep at hi ih
              rw [List.foldl_cons] at hi
              refine ih _ (fun x hx => hm x (by simp [hx])) (fun q hq => ?_) i hi
              split at hq
              · rename_i hb
                rw [Nat.testBit_or, Nat.testBit_or, Bool.or_eq_true, Bool.or_eq_true] at hq
                rcases hq with (hq | hq) | hq
                · exact hs q hq
                · have : e.on = q := by
                    rw [Nat.testBit_two_pow] at hq; simpa using hq
                  exact .edge ho (hm e (by simp)) hb this
                · exact .step ho (hm e (by simp)) hb rfl (h _ q hq)
              · exact hs q hq
          exact key _ 0 (fun e he => by simpa using he) (fun i hi => by simp at hi) i hj
        · rw [List.getD_eq_getElem?_getD, List.getElem?_eq_none (by simp; omega)] at hj
          simp at hj

def chkRow (b : Nat) : Nat → List Tx → Tx → Bool
  | _, [], _ => true
  | i, t :: ts, u => (b.testBit i || t.apart u) && chkRow b (i + 1) ts u
def chkAll (bs : List Nat) (ts : List Tx) : Nat → List Tx → Bool
  | _, [] => true
  | j, u :: us => chkRow (bs.getD j 0) 0 (ts.take j) u && chkAll bs ts (j + 1) us
def edgesOk : Nat → List Oper → Bool
  | _, [] => true
  | j, o :: os => o.after.toList.all (fun e => !Region.binds .any e || Nat.blt e.on j) && edgesOk (j + 1) os
def chk (ops : Array Oper) (ts : List Tx) : Bool := edgesOk 0 ops.toList && chkAll (bef ops.toList []) ts 0 ts

theorem chkRow_ok {b : Nat} {u : Tx} : ∀ (ts : List Tx) (i : Nat), chkRow b i ts u = true → ∀ q t, ts[q]? = some t → b.testBit (i + q) = true ∨ t.apart u = true
  | [], i, _, q, t, ht => by simp at ht
  | x :: ts, i, h, q, t, ht => by
    simp only [chkRow, Bool.and_eq_true, Bool.or_eq_true] at h
    cases q with
    | zero => simp at ht; subst ht; exact h.1
    | succ q =>
      have := chkRow_ok ts (i + 1) h.2 q t (by simpa using ht)
      rwa [show i + 1 + q = i + (q + 1) from by omega] at this
theorem chkAll_ok {bs : List Nat} {ts : List Tx} : ∀ (us : List Tx) (j : Nat), chkAll bs ts j us = true → ∀ q u, us[q]? = some u → ∀ i t, i < j + q → ts[i]? = some t → (bs.getD (j + q) 0).testBit i = true ∨ t.apart u = true
  | [], j, _, q, u, hu => by simp at hu
  | x :: us, j, h, q, u, hu => by
    intro i t hi ht
    simp only [chkAll, Bool.and_eq_true] at h
    cases q with
    | zero =>
      simp at hu; subst hu
      have := chkRow_ok _ 0 h.1 i t (by rw [List.getElem?_take, if_pos (by omega)]; exact ht)
      simpa using this
    | succ q =>
      have := chkAll_ok us (j + 1) h.2 q u (by simpa using hu) i t (by omega) ht
      rwa [show j + 1 + q = j + (q + 1) from by omega] at this
theorem edgesOk_ok : ∀ (os : List Oper) (j : Nat), edgesOk j os = true → ∀ q o, os[q]? = some o → ∀ e ∈ o.after, Region.binds .any e = true → e.on < j + q
  | [], j, _, q, o, ho => by simp at ho
  | x :: os, j, h, q, o, ho => by
    intro e he hb
    simp only [edgesOk, Bool.and_eq_true, List.all_eq_true, Bool.or_eq_true, Bool.not_eq_true'] at h
    cases q with
    | zero =>
      simp at ho; subst ho
      rcases h.1 e (by simpa using he) with h1 | h1
      · rw [hb] at h1; cases h1
      · exact Nat.le_of_ble_eq_true h1
    | succ q =>
      have := edgesOk_ok os (j + 1) h.2 q o (by simpa using ho) e he hb
      omega

noncomputable def looks (ops : Array Oper) (o : Oper) : List Tmp :=
  (o.op.operands.toList.filterMap fun | .tmp t => some t | _ => none) ++ (match o.guard with | some (g, _) => (dstAt ops.toList g).toList | none => [])
theorem looks_eq (ops : Array Oper) (o : Oper) : looks ops o = o.looksAt ops := by
  unfold looks Oper.looksAt
  cases o.guard with
  | none => rfl
  | some g =>
    obtain ⟨g, w⟩ := g
    simp only [dstAt_eq]
    rfl

def Tr.appK (t : Tr) (st : St) (k : St → Prop) : Prop :=
  match st with
  | ⟨sl, bx, rw'⟩ =>
  (match t.nb with
   | some (b, cs) => fB (bx.set b (some cs))
   | none => match t.wr with
     | some (b, off, cs) => fB (bx.modify b (Option.map fun old => blit old off cs))
     | none => fun k => k bx) fun bs =>
  match t.dst with
  | some d => setK sl d t.g fun s => k ⟨s, bs, rw'⟩
  | none => k ⟨sl, bs, rw'⟩
theorem Tr.appK_eq (t : Tr) (st : St) (k : St → Prop) : t.appK st k = k (t.app st) := by
  unfold Tr.appK Tr.app
  cases t.nb with
  | some p => obtain ⟨b, cs⟩ := p; simp only [fB_eq]; cases t.dst <;> simp only [setK_eq]
  | none =>
    cases t.wr with
    | some p => obtain ⟨b, o, cs⟩ := p; simp only [fB_eq]; cases t.dst <;> simp only [setK_eq]
    | none => cases t.dst <;> simp only [setK_eq]
def Tx.appK (x : Tx) (st : St) (k : St → Prop) : Prop :=
  match x with
  | .tr t _ => t.appK st k
  | .mem d g _ ks bs rs => match st with
    | ⟨sl, _, _⟩ => (bif ks.isEmpty then (fun k => k sl) else fS (killS ks sl)) fun sl => match d with
      | some d => setK sl d g fun s => k ⟨s, bs, rs⟩
      | none => k ⟨sl, bs, rs⟩
  | .all st' => k st'
theorem Tx.appK_eq (x : Tx) (st : St) (k : St → Prop) : x.appK st k = k (x.app st) := by
  cases x with
  | tr t vs => exact Tr.appK_eq t st k
  | mem d g L ks bs rs =>
    unfold Tx.appK Tx.app
    cases ks with
    | nil => cases d <;> simp only [List.isEmpty_nil, cond_true, setK_eq, killS, List.foldl_nil]
    | cons k0 ks => cases d <;> simp only [List.isEmpty_cons, cond_false, fS_eq, setK_eq]
  | all st' => rfl
def dopsF (P : Program) (ops : Array Oper) (o : Oper) (ih : St → List Tx → (List Tx → St → Prop) → Prop) (st : St) (acc : List Tx) (K : List Tx → St → Prop) : Prop :=
    match o.guard with
    | none => dcop P (looks ops o) o st fun t => t.appK st fun st' => ih st' (t :: acc) K
    | some (j, want) => match dstAt ops.toList j with
      | none => False
      | some s => match st.slots.getD s .junk with
        | .bool b => bif b then (bif want then st.next true (some s) (.bool true) fun st => dcop P (looks ops o) o st fun t => t.appK st fun st' => ih st' (t :: acc) K
              else st.next true (some s) (.bool true) fun st => (Tx.tr ⟨o.dst, .und, none, none, looks ops o, none, false⟩ (st.vals (looks ops o))).appK st fun st' => ih st' (.tr ⟨o.dst, .und, none, none, looks ops o, none, false⟩ (st.vals (looks ops o)) :: acc) K)
            else (bif want then st.next true (some s) (.bool false) fun st => (Tx.tr ⟨o.dst, .und, none, none, looks ops o, none, false⟩ (st.vals (looks ops o))).appK st fun st' => ih st' (.tr ⟨o.dst, .und, none, none, looks ops o, none, false⟩ (st.vals (looks ops o)) :: acc) K
              else st.next true (some s) (.bool false) fun st => dcop P (looks ops o) o st fun t => t.appK st fun st' => ih st' (t :: acc) K)
        | .und => (Tx.tr ⟨o.dst, .und, none, none, looks ops o, none, false⟩ (st.vals (looks ops o))).appK st fun st' => ih st' (.tr ⟨o.dst, .und, none, none, looks ops o, none, false⟩ (st.vals (looks ops o)) :: acc) K
        | _ => False
def dops (P : Program) (ops : Array Oper) (l : List Oper) : St → List Tx → (List Tx → St → Prop) → Prop :=
  List.rec (motive := fun _ => St → List Tx → (List Tx → St → Prop) → Prop) (fun st acc K => st.force fun st => K acc.reverse st) (fun o _ ih => dopsF P ops o ih) l

theorem put_same {st : St} {t : Nat} {b : Bool} (hs : st.slots.getD t .junk = .bool b) : st.put (some t) (.bool b) = st := by
  rw [List.getD_eq_getElem?_getD] at hs
  unfold St.put
  have : st.slots.set t (.bool b) = st.slots := by
    apply List.ext_getElem?
    intro i
    by_cases e : t = i
    · subst e
      cases hx : st.slots[t]? with
      | none => rw [List.getElem?_eq_none (by simp; exact List.getElem?_eq_none_iff.1 hx)]
      | some g => rw [hx] at hs; simp at hs; subst hs; rw [List.getElem?_set_self (List.getElem?_eq_some_iff.1 hx).1]
    · rw [List.getElem?_set_ne e]
  simp only [this]

/-- One behind the other: what each does, in the state at its turn. -/
theorem dops_does {P : Program} {ops : Array Oper} {K : List Tx → St → Prop} : ∀ (rest : List Oper) (st : St) (acc : List Tx), ops.toList.drop acc.length = rest → dops P ops rest st acc K →
    ∃ ts, K (acc.reverse ++ ts) (ts.foldl (fun s t => t.app s) st) ∧ ts.length = rest.length ∧ ∀ (q : Nat) t, ts[q]? = some t → Does P ops (acc.length + q) t ((ts.take q).foldl (fun s t => t.app s) st)
  | [], st, acc, hd, h => ⟨[], by change St.force st (fun st => K acc.reverse st) at h; rw [St.force_eq] at h; simpa using h, rfl, fun q t ht => by simp at ht⟩
  | o :: rest, st, acc, hd, h => by
    have ho : ops[acc.length]? = some o := by
      have := congrArg (fun l => l[0]?) hd
      simp only [List.getElem?_drop, List.getElem?_cons_zero, Nat.add_zero] at this
      simpa using this
    have hd' : ∀ t : Tx, ops.toList.drop (t :: acc).length = rest := fun t => by
      have := congrArg (List.drop 1) hd
      simpa [List.drop_drop] using this
    have go : ∀ t : Tx, Does P ops acc.length t st → dops P ops rest (t.app st) (t :: acc) K → ∃ ts, K (acc.reverse ++ ts) (ts.foldl (fun s t => t.app s) st) ∧ ts.length = (o :: rest).length ∧ ∀ (q : Nat) t, ts[q]? = some t → Does P ops (acc.length + q) t ((ts.take q).foldl (fun s t => t.app s) st) := fun t hD h => by
      obtain ⟨ts, h1, h2, h3⟩ := dops_does rest (t.app st) (t :: acc) (hd' t) h
      refine ⟨t :: ts, by simpa using h1, by simp [h2], fun q u hu => ?_⟩
      cases q with
      | zero => simp at hu; subst hu; simpa using hD
      | succ q =>
        have := h3 q u (by simpa using hu)
        rw [show (t :: acc).length + q = acc.length + (q + 1) from by simp; omega] at this
        simpa using this
    have doit : ∀ (t : Tx), t.Vals st → (∀ (st' : St), t.Same st' st → ∀ (C : Cx) (F : Fd) (a : Act) (w : World) (Q : Exit → Act → World → Prop) (K : Act → World → Prop), Inv C F st' a w → (∀ C' a' w', Inv C' F (t.app st') a' w' → K a' w') → o.wp P a w K Q) →
        (∀ (st' : St), t.Same st' st → ∀ (C : Cx) (F : Fd) (a : Act) (w : World), Inv C F st' a w → Region.wanted o (yielded ops a.tmps) = true) → Does P ops acc.length t st := fun t hv ht hw => ⟨hv, fun st' hs C F a w Q K hi hk => by
      unfold wpOp
      simp only [ho]
      rw [if_pos (hw st' hs C F a w hi)]
      exact .inl (ht st' hs C F a w Q K hi hk)⟩
    have skip : (∀ (st' : St), (Tx.tr ⟨o.dst, .und, none, none, o.looksAt ops, none, false⟩ (st.vals (o.looksAt ops))).Same st' st → ∀ (C : Cx) (F : Fd) (a : Act) (w : World), Inv C F st' a w → Region.wanted o (yielded ops a.tmps) = false) → Does P ops acc.length (.tr ⟨o.dst, .und, none, none, o.looksAt ops, none, false⟩ (st.vals (o.looksAt ops))) st := fun hw => ⟨fun i d hd v hv => by
      unfold St.vals at hv
      have hd' : (o.looksAt ops)[i]? = some d := hd
      rw [List.getElem?_map, hd'] at hv
      exact (Option.some.inj hv).symm, fun st' hs C F a w Q K hi hk => by
      unfold wpOp
      simp only [ho]
      rw [if_neg (by rw [hw st' hs C F a w hi]; simp)]
      have e : (Tx.tr ⟨o.dst, .und, none, none, o.looksAt ops, none, false⟩ (st.vals (o.looksAt ops))).app st' = st'.put o.dst .und := by unfold Tx.app Tr.app St.put; cases o.dst <;> rfl
      refine hk C _ _ ?_
      rw [e]
      exact hi.put o.dst .und⟩
    change dopsF P ops o (dops P ops rest) st acc K at h
    unfold dopsF at h
    simp only [looks_eq, St.next_eq, Tx.appK_eq] at h
    split at h
    · rename_i hg
      obtain ⟨t, h1, hv, _, h2⟩ := dcop_sound h
      exact go t (doit t hv h2 (fun _ _ _ _ _ _ _ => by simp [Region.wanted, hg])) h1
    · rename_i j want hg
      split at h
      · exact h.elim
      · rename_i s hsd
        rw [dstAt_eq] at hsd
        split at h
        · rename_i b hb
          have hls : s ∈ o.looksAt ops := List.mem_append_right _ (by rw [hg]; simp [hsd])
          have yld : ∀ (t : Tx), (∀ st', t.Same st' st → ∀ d ∈ o.looksAt ops, st'.slots.getD d .junk = st.slots.getD d .junk) → ∀ (st' : St), t.Same st' st → ∀ (C : Cx) (F : Fd) (a : Act) (w : World), Inv C F st' a w → Region.wanted o (yielded ops a.tmps) = (b == want) := fun t hl st' hs C F a w hi => by
            have hb' : st'.slots.getD s .junk = .bool b := by rw [hl st' hs s hls, hb]
            have hy : yielded ops a.tmps j = some b := by
              unfold yielded
              rw [hsd]; simp only [Option.bind_some, (hi.slot hb').2]
            simp only [Region.wanted, hg, hy]
            cases b <;> cases want <;> rfl
          cases b <;> cases want <;> simp only [cond_true, cond_false] at h <;> rw [put_same hb] at h
          · obtain ⟨t, h1, hv, h3, h2⟩ := dcop_sound h
            exact go t (doit t hv h2 (fun st' hs C F a w hi => by rw [yld t h3 st' hs C F a w hi]; rfl)) h1
          · exact go _ (skip (fun st' hs C F a w hi => by rw [yld (.tr ⟨o.dst, .und, none, none, o.looksAt ops, none, false⟩ (st.vals (o.looksAt ops))) (fun st' hs => Tr.Same.look hs) st' hs C F a w hi]; rfl)) h
          · exact go _ (skip (fun st' hs C F a w hi => by rw [yld (.tr ⟨o.dst, .und, none, none, o.looksAt ops, none, false⟩ (st.vals (o.looksAt ops))) (fun st' hs => Tr.Same.look hs) st' hs C F a w hi]; rfl)) h
          · obtain ⟨t, h1, hv, h3, h2⟩ := dcop_sound h
            exact go t (doit t hv h2 (fun st' hs C F a w hi => by rw [yld t h3 st' hs C F a w hi]; rfl)) h1
        · rename_i hb
          have hls : s ∈ o.looksAt ops := List.mem_append_right _ (by rw [hg]; simp [hsd])
          refine go _ (skip (fun st' hs C F a w hi => ?_)) h
          have hb' : st'.slots.getD s .junk = .und := by rw [Tr.Same.look hs s hls, hb]
          have hy : yielded ops a.tmps j = none := by
            unfold yielded
            rw [hsd]; simp only [Option.bind_some, hi.undAt hb']; rfl
          simp only [Region.wanted, hg, hy]
          cases want <;> rfl
        · exact h.elim

theorem repl (n j : Nat) : (Array.replicate n false).getD j false = false := by
  rw [Array.getD_eq_getD_getElem?, Array.getElem?_replicate]; split <;> rfl
theorem drawn_sound {P : Program} {id : Nat} {ops : Array Oper} {st : St} {K : St → Prop} (hm : P.follows .mixedOrders = true) (h : dops P ops ops.toList st [] fun ts st' => chk ops ts = true ∧ K st') :
    HasD P (.region id ops true) st fun e st' => e = .normal ∧ K st' := by
  obtain ⟨ts, h1, h2, h3⟩ := dops_does ops.toList st [] rfl h
  simp only [List.reverse_nil, List.nil_append, List.length_nil, Nat.zero_add] at h1 h3
  cases hc : chk ops ts with
  | false => rw [hc] at h1; cases h1.1
  | true =>
    have h1 := h1.2
    simp only [chk, Bool.and_eq_true] at hc
    have hn : ts.length = ops.size := by simpa using h2
    let T : Nat → Tx := fun i => ts.getD i (.tr ⟨none, .junk, none, none, [], none, false⟩ [])
    have hT : ∀ i, i < ops.size → ts[i]? = some (T i) := fun i hi => by
      show _ = some (ts.getD i _)
      rw [List.getD_eq_getElem?_getD, List.getElem?_eq_getElem (by omega)]; rfl
    have hfold : ∀ n, n ≤ ops.size → foldI T (List.range n) st = (ts.take n).foldl (fun s t => t.app s) st := fun n => by
      induction n with
      | zero => intro _; rfl
      | succ n ih =>
        intro hle
        have e : ts.take (n + 1) = ts.take n ++ [T n] := by
          rw [List.take_add_one, hT n (by omega)]; rfl
        rw [List.range_succ, foldI_append, ih (by omega), e, List.foldl_append]
        rfl
    intro C F a w hi
    refine wp_region_any hm ?_
    refine any_sound (T := T) (st := st) (F := F) (fun i hi => ?_) (fun i j hij hj hA => ?_) (fun j o ho e he hb => ?_) (fun C a w hi => ⟨C, _, ⟨rfl, h1⟩, ?_⟩) ops.size _ C a _ (by simp) (fun j o _ hl => ?_) (cnt_le _ _) ?_
    · rw [hfold i (by omega)]
      exact h3 i _ (hT i hi)
    · have hbef := bef_anc (ops := ops) ops.toList [] rfl (fun j i hj => by simp at hj)
      rcases chkAll_ok ts 0 hc.2 j (T j) (hT j hj) i (T i) (by omega) (hT i (by omega)) with h | h
      · exact absurd (hbef j i (by simpa using h)) hA
      · exact h
    · have := edgesOk_ok ops.toList 0 hc.1 j o (by simpa using ho) e he hb
      omega
    · rw [repl] at hl; cases hl
    · have e : (List.range ops.size).filter (fun j => (Array.replicate ops.size false).getD j false) = [] := by
        apply List.filter_eq_nil_iff.2
        intro j hj
        rw [repl]; simp
      rw [e]
      exact hi.drew
    · have e := hfold ops.size (Nat.le_refl _)
      rw [List.take_of_length_le (by omega)] at e
      rw [← e]; exact hi
end Go.Proofs.YtcihkmnolagdlaaDoor.Av
