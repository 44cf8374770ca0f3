
/- Packets as bytes: what is told is read, and what is read is told. No condition. -/
import Derived.Test.YtfpincfmcjiokaaSp19
namespace Go.Proofs.Ytfpincfmcjiokaa.Sp
open Go Go.Proofs.Ytfpincfmcjiokaa.Av
set_option linter.unusedVariables false
set_option maxRecDepth 100000

def tickI (n : Int) : Bool := decide (0 ≤ n ∧ n ≤ 1125899906842624)
def cleanP (p : Packet) : Packet where
  kind := p.kind
  «from» := p.from
  to := p.to
  key := p.key
  hop := if p.kind = 1 then p.hop else 0
  stamp := if p.kind = 1 then p.stamp else 0
  timeout := if p.kind = 1 then p.timeout else ⟨#[]⟩
  «until» := if p.kind = 1 ∨ p.kind = 4 then p.until else 0
  program := if p.kind = 1 then p.program else 0
  root := if p.kind = 1 then p.root else zId
  parent := if p.kind = 1 then p.parent else zKey
  code := if p.kind = 2 then p.code else 0
  value := if p.kind = 2 then p.value else 0
  more := if p.kind = 2 then p.more else false
  delay := if p.kind = 5 then p.delay else 0
def okCall (p : Packet) : Bool := decide ((dec p.timeout).2 = 0 ∧ 1 ≤ p.hop ∧ p.hop ≤ 16 ∧ 0 ≤ p.program ∧ p.program < 16) && tickI p.stamp && tickI p.until && okId p.root && okKey p.parent
def okKind (p : Packet) : Bool :=
  if p.kind = 1 then okCall p
  else if p.kind = 2 then right p.code && decide (0 ≤ p.value ∧ p.value < 2147483648 ∧ (p.more = true → p.code = 0 ∧ p.value = 0))
  else if p.kind = 3 then true
  else if p.kind = 4 then tickI p.until
  else if p.kind = 5 then decide (-1 ≤ p.delay ∧ p.delay ≤ 1125899906842624)
  else false
def okHead (p : Packet) : Bool := decide (0 ≤ p.from ∧ p.from < 64 ∧ 0 ≤ p.to ∧ p.to < 64) && okKey p.key && decide (1 ≤ p.key.att) && decide (cleanP p = p)
def okP (p : Packet) : Bool := okHead p && okKind p
def headB (p : Packet) : ByteArray := numB p.kind 1 ++ numB p.from 1 ++ numB p.to 1 ++ keyB p.key
def tailB (p : Packet) : ByteArray :=
  if p.kind = 1 then numB p.hop 1 ++ numB p.stamp 7 ++ textB p.timeout ++ numB p.until 7 ++ numB p.program 1 ++ idB p.root ++ keyB p.parent
  else if p.kind = 2 then numB p.code 1 ++ numB p.value 4 ++ flagB p.more
  else if p.kind = 4 then numB p.until 7
  else if p.kind = 5 then numB (p.delay + 1) 7
  else ⟨#[]⟩
def codeP (p : Packet) : ByteArray := sealB (headB p ++ tailB p)
def readP (r : Rd) : Rd × Packet :=
  let a := rNum r 1
  let b := rNum a.1 1
  let c := rNum b.1 1
  let k := rKey c.1
  let p : Packet := { zP with kind := a.2, «from» := b.2, to := c.2, key := k.2 }
  if a.2 = 1 then
    let h := rNum k.1 1
    let s := rNum h.1 7
    let t := rText s.1
    let u := rNum t.1 7
    let g := rNum u.1 1
    let i := rId g.1
    let q := rKey i.1
    (q.1, { p with hop := h.2, stamp := s.2, timeout := t.2, «until» := u.2, program := g.2, root := i.2, parent := q.2 })
  else if a.2 = 2 then
    let e := rNum k.1 1
    let v := rNum e.1 4
    let m := rFlag v.1
    (m.1, { p with code := e.2, value := v.2, more := m.2 })
  else if a.2 = 4 then
    let u := rNum k.1 7
    (u.1, { p with «until» := u.2 })
  else if a.2 = 5 then
    let d := rNum k.1 7
    (d.1, { p with delay := d.2 - 1 })
  else if a.2 = 3 then (k.1, p)
  else (rFail k.1 9, p)
def parseP (s : ByteArray) : Packet × Int :=
  if (openB s).2 = false then (zP, 4)
  else if (rEnd (readP ⟨(openB s).1, 0, 0⟩).1).bad ≠ 0 then (zP, (rEnd (readP ⟨(openB s).1, 0, 0⟩).1).bad)
  else if okP (readP ⟨(openB s).1, 0, 0⟩).2 = false then (zP, 2)
  else ((readP ⟨(openB s).1, 0, 0⟩).2, 0)

theorem tickI_iff (n : Int) : tickI n = true ↔ 0 ≤ n ∧ n ≤ 1125899906842624 := by unfold tickI; simp
theorem okCall_iff (p : Packet) : okCall p = true ↔ ((dec p.timeout).2 = 0 ∧ 1 ≤ p.hop ∧ p.hop ≤ 16 ∧ 0 ≤ p.program ∧ p.program < 16) ∧ (0 ≤ p.stamp ∧ p.stamp ≤ 1125899906842624) ∧ (0 ≤ p.until ∧ p.until ≤ 1125899906842624) ∧ okId p.root = true ∧ okKey p.parent = true := by
  unfold okCall
  rw [Bool.and_eq_true, Bool.and_eq_true, Bool.and_eq_true, Bool.and_eq_true, decide_eq_true_eq, tickI_iff, tickI_iff]
  simp only [and_assoc]
theorem okHead_iff (p : Packet) : okHead p = true ↔ (0 ≤ p.from ∧ p.from < 64 ∧ 0 ≤ p.to ∧ p.to < 64) ∧ okKey p.key = true ∧ 1 ≤ p.key.att ∧ cleanP p = p := by
  unfold okHead
  rw [Bool.and_eq_true, Bool.and_eq_true, Bool.and_eq_true, decide_eq_true_eq, decide_eq_true_eq, decide_eq_true_eq]
  simp only [and_assoc]
theorem dec_size {s : ByteArray} (h : (dec s).2 = 0) : s.size < 256 := by
  unfold dec at h
  by_cases h1 : s.size < 2 ∨ 9 < s.size
  · rw [if_pos h1] at h; exact absurd h (by decide)
  · omega
theorem at_open (s : ByteArray) : At ⟨s, 0, 0⟩ s.data.toList := ⟨rfl, Nat.zero_le _, by simp⟩
theorem at_nil {r : Rd} {l : List UInt8} (h : At r l) : (rEnd r).bad = 0 ↔ l = [] := by
  have hl := h.len
  unfold rEnd rLeft
  simp only [h.1, if_true]
  constructor
  · intro e
    split at e
    · exact absurd e (show ¬ (5 : Int) = 0 by decide)
    · apply List.length_eq_zero_iff.1; omega
  · rintro rfl
    rw [if_neg (by simp at hl; omega)]
theorem rEnd_bad {r : Rd} (h : (rEnd r).bad = 0) : r.bad = 0 := by
  by_cases hb : r.bad = 0
  · exact hb
  · unfold rEnd rLeft at h
    simp only [if_neg hb] at h
    rw [if_neg (by omega)] at h
    exact h
theorem kinds {p : Packet} (h : okKind p = true) : p.kind = 1 ∨ p.kind = 2 ∨ p.kind = 3 ∨ p.kind = 4 ∨ p.kind = 5 := by
  unfold okKind at h
  (repeat' split at h) <;> first | (simp at h; done) | omega
theorem clean_ext {p q : Packet} (h : q.kind = p.kind) (h1 : q.from = p.from) (h2 : q.to = p.to) (h3 : q.key = p.key) (hc : cleanP p = p) (hq : cleanP q = q)
    (k1 : p.kind = 1 → q.hop = p.hop ∧ q.stamp = p.stamp ∧ q.timeout = p.timeout ∧ q.program = p.program ∧ q.root = p.root ∧ q.parent = p.parent)
    (k4 : p.kind = 1 ∨ p.kind = 4 → q.until = p.until) (k2 : p.kind = 2 → q.code = p.code ∧ q.value = p.value ∧ q.more = p.more) (k5 : p.kind = 5 → q.delay = p.delay) : q = p := by
  rw [← hc, ← hq]
  unfold cleanP
  rw [h, h1, h2, h3]
  congr 1
  · split <;> first | rfl | exact (k1 (by assumption)).1
  · split <;> first | rfl | exact (k1 (by assumption)).2.1
  · split <;> first | rfl | exact (k1 (by assumption)).2.2.1
  · split <;> first | rfl | exact k4 (by assumption)
  · split <;> first | rfl | exact (k1 (by assumption)).2.2.2.1
  · split <;> first | rfl | exact (k1 (by assumption)).2.2.2.2.1
  · split <;> first | rfl | exact (k1 (by assumption)).2.2.2.2.2
  · split <;> first | rfl | exact (k2 (by assumption)).1
  · split <;> first | rfl | exact (k2 (by assumption)).2.1
  · split <;> first | rfl | exact (k2 (by assumption)).2.2
  · split <;> first | rfl | exact k5 (by assumption)
theorem read_code {p : Packet} {r : Rd} (h : okP p = true) (hA : At r (headB p ++ tailB p).data.toList) : (readP r).2 = p ∧ At (readP r).1 [] := by
  unfold okP at h
  rw [Bool.and_eq_true, okHead_iff] at h
  obtain ⟨⟨⟨f1, f2, t1, t2⟩, hk, ha, hcl⟩, hkind⟩ := h
  have hks := kinds hkind
  unfold headB at hA
  rw [app_list, app_list, app_list, app_list, List.append_assoc, List.append_assoc, List.append_assoc] at hA
  obtain ⟨e1, h1⟩ := num_at (w := 1) (by omega) (by omega) (by omega) (by omega) hA
  obtain ⟨e2, h2⟩ := num_at (w := 1) (by omega) (by omega) (by omega) (by omega) h1
  obtain ⟨e3, h3⟩ := num_at (w := 1) (by omega) (by omega) (by omega) (by omega) h2
  have e1 : (rNum r 1).2 = p.kind := e1
  have e2 : (rNum (rNum r 1).1 1).2 = p.from := e2
  have e3 : (rNum (rNum (rNum r 1).1 1).1 1).2 = p.to := e3
  have h3 : At (rNum (rNum (rNum r 1).1 1).1 1).1 ((keyB p.key).data.toList ++ (tailB p).data.toList) := h3
  obtain ⟨e4, h4⟩ := key_at hk h3
  unfold readP
  simp only [e1]
  unfold tailB at h4
  unfold okKind at hkind
  by_cases c1 : p.kind = 1
  · rw [if_pos c1] at h4 hkind ⊢
    obtain ⟨⟨d0, d1, d2, d3, d4⟩, ⟨s1, s2⟩, ⟨u1, u2⟩, hr, hp⟩ := (okCall_iff p).1 hkind
    rw [app_list, app_list, app_list, app_list, app_list, app_list, List.append_assoc, List.append_assoc, List.append_assoc, List.append_assoc, List.append_assoc] at h4
    obtain ⟨e5, h5⟩ := num_at (w := 1) (by omega) (by omega) (by omega) (by omega) h4
    obtain ⟨e6, h6⟩ := num_at (w := 7) (by omega) (by omega) (by omega) (by omega) h5
    obtain ⟨e7, h7⟩ := text_at (dec_size d0) h6
    obtain ⟨e8, h8⟩ := num_at (w := 7) (by omega) (by omega) (by omega) (by omega) h7
    obtain ⟨e9, h9⟩ := num_at (w := 1) (by omega) (by omega) (by omega) (by omega) h8
    obtain ⟨e10, h10⟩ := id_at hr h9
    obtain ⟨e11, h11⟩ := key_at (l := []) hp (by rw [List.append_nil]; exact h10)
    refine ⟨clean_ext rfl e2 e3 e4 hcl ?_ (fun _ => ⟨e5, e6, e7, e9, e10, e11⟩) (fun _ => e8) (fun h => absurd (c1.symm.trans h) (by decide)) (fun h => absurd (c1.symm.trans h) (by decide)), h11⟩
    unfold cleanP zP
    simp only [c1]
    congr 1
  · rw [if_neg c1] at h4 hkind ⊢
    by_cases c2 : p.kind = 2
    · rw [if_pos c2] at h4 hkind ⊢
      rw [Bool.and_eq_true, decide_eq_true_eq] at hkind
      obtain ⟨hr, v1, v2, _⟩ := hkind
      have hr : 0 ≤ p.code ∧ p.code ≤ 16 := by unfold right at hr; simpa using hr
      rw [app_list, app_list, List.append_assoc] at h4
      obtain ⟨e5, h5⟩ := num_at (w := 1) (by omega) (by omega) (by omega) (by omega) h4
      obtain ⟨e6, h6⟩ := num_at (w := 4) (by omega) (by omega) (by omega) (by omega) h5
      obtain ⟨e7, h7⟩ := flag_at (l := []) (by rw [List.append_nil]; exact h6)
      refine ⟨clean_ext rfl e2 e3 e4 hcl ?_ (fun h => absurd (c2.symm.trans h) (by decide)) (fun h => by rcases h with h | h <;> exact absurd (c2.symm.trans h) (by decide)) (fun _ => ⟨e5, e6, e7⟩) (fun h => absurd (c2.symm.trans h) (by decide)), h7⟩
      unfold cleanP zP
      simp only [c2]
      congr 1
    · rw [if_neg c2] at h4 hkind ⊢
      by_cases c4 : p.kind = 4
      · rw [if_neg (by omega), if_pos c4] at hkind
        rw [if_pos c4] at h4 ⊢
        have ht := (tickI_iff _).1 hkind
        obtain ⟨e5, h5⟩ := num_at (x := p.until) (w := 7) (l := []) (by omega) (by omega) (by omega) (by omega) (by rw [List.append_nil]; exact h4)
        refine ⟨clean_ext rfl e2 e3 e4 hcl ?_ (fun h => absurd (c4.symm.trans h) (by decide)) (fun _ => e5) (fun h => absurd (c4.symm.trans h) (by decide)) (fun h => absurd (c4.symm.trans h) (by decide)), h5⟩
        unfold cleanP zP
        simp only [c4]
        congr 1
      · rw [if_neg c4] at h4 ⊢
        by_cases c5 : p.kind = 5
        · rw [if_neg (by omega), if_neg (by omega), if_pos c5, decide_eq_true_eq] at hkind
          rw [if_pos c5] at h4 ⊢
          obtain ⟨e5, h5⟩ := num_at (x := p.delay + 1) (w := 7) (l := []) (by omega) (by omega) (by omega) (by omega) (by rw [List.append_nil]; exact h4)
          have e5 : (rNum (rKey (rNum (rNum (rNum r 1).1 1).1 1).1).1 7).2 = p.delay + 1 := e5
          refine ⟨clean_ext rfl e2 e3 e4 hcl ?_ (fun h => absurd (c5.symm.trans h) (by decide)) (fun h => by rcases h with h | h <;> exact absurd (c5.symm.trans h) (by decide)) (fun h => absurd (c5.symm.trans h) (by decide)) (fun _ => by show (rNum (rKey (rNum (rNum (rNum r 1).1 1).1 1).1).1 7).2 - 1 = p.delay; omega), h5⟩
          unfold cleanP zP
          simp only [c5]
          congr 1
        · have c3 : p.kind = 3 := by omega
          rw [if_neg c5] at h4 ⊢
          rw [if_pos c3]
          refine ⟨clean_ext rfl e2 e3 e4 hcl ?_ (fun h => absurd (c3.symm.trans h) (by decide)) (fun h => by rcases h with h | h <;> exact absurd (c3.symm.trans h) (by decide)) (fun h => absurd (c3.symm.trans h) (by decide)) (fun h => absurd (c3.symm.trans h) (by decide)), h4⟩
          unfold cleanP zP
          simp only [c3]
          congr 1
theorem parse_code {p : Packet} (h : okP p = true) : parseP (codeP p) = (p, 0) := by
  have hr := read_code (r := ⟨headB p ++ tailB p, 0, 0⟩) h (at_open _)
  unfold parseP codeP
  rw [open_seal]
  simp only
  rw [if_neg (by simp), if_neg (by simp [(at_nil hr.2).2 rfl]), hr.1, if_neg (by simp [h])]
theorem parse_inv {s : ByteArray} (h : (parseP (sealB s)).2 = 0) : okP (parseP (sealB s)).1 = true ∧ codeP (parseP (sealB s)).1 = sealB s := by
  unfold parseP at h ⊢
  rw [open_seal] at h ⊢
  simp only at h ⊢
  rw [if_neg (by simp)] at h ⊢
  by_cases hb : (rEnd (readP ⟨s, 0, 0⟩).1).bad = 0
  · rw [if_neg (by simp [hb])] at h ⊢
    by_cases hok : okP (readP ⟨s, 0, 0⟩).2 = true
    · rw [if_neg (by simp [hok])] at h ⊢
      refine ⟨hok, ?_⟩
      unfold codeP
      congr 1
      apply ext_list
      have hA := at_open s
      generalize (⟨s, 0, 0⟩ : Rd) = r at *
      have hb' := rEnd_bad hb
      have fin : ∀ m, At (readP r).1 m → m = [] := fun m hm => (at_nil hm).1 hb
      have ok2 := hok
      unfold okP at ok2
      rw [Bool.and_eq_true] at ok2
      have hks := kinds ok2.2
      have hkd : (readP r).2.kind = (rNum r 1).2 := by unfold readP; simp only; (repeat' split) <;> rfl
      have hhd : headB (readP r).2 = numB (rNum r 1).2 1 ++ numB (rNum (rNum r 1).1 1).2 1 ++ numB (rNum (rNum (rNum r 1).1 1).1 1).2 1 ++ keyB (rKey (rNum (rNum (rNum r 1).1 1).1 1).1).2 := by
        unfold headB readP; simp only; (repeat' split) <;> rfl
      have start : (rKey (rNum (rNum (rNum r 1).1 1).1 1).1).1.bad = 0 → ∃ m, s.data.toList = (headB (readP r).2).data.toList ++ m ∧ At (rKey (rNum (rNum (rNum r 1).1 1).1 1).1).1 m := fun b4 => by
        have b3 := rKey_bad b4
        have b2 := rNum_bad (w := 1) b3 (by omega) (by omega)
        have b1 := rNum_bad (w := 1) b2 (by omega) (by omega)
        obtain ⟨m1, _, _, l1, a1⟩ := num_inv (w := 1) (by omega) (by omega) hA b1
        obtain ⟨m2, _, _, l2, a2⟩ := num_inv (w := 1) (by omega) (by omega) a1 b2
        obtain ⟨m3, _, _, l3, a3⟩ := num_inv (w := 1) (by omega) (by omega) a2 b3
        obtain ⟨m4, _, l4, a4⟩ := key_inv a3 b4
        refine ⟨m4, ?_, a4⟩
        rw [hhd, l1, l2, l3, l4]
        simp only [app_list, List.append_assoc]
        rfl
      rw [app_list]
      rw [hkd] at hks
      generalize hh : headB (readP r).2 = H at start ⊢
      clear hhd hh
      unfold tailB
      rw [hkd]
      by_cases c1 : (rNum r 1).2 = 1
      · rw [if_pos c1]
        unfold readP at hb' fin ⊢
        simp only at hb' fin ⊢
        rw [if_pos c1] at hb' fin ⊢
        simp only at hb' fin ⊢
        have b10 := rKey_bad hb'
        have b9 := rId_bad b10
        have b8 := rNum_bad (w := 1) b9 (by omega) (by omega)
        have b7 := rNum_bad (w := 7) b8 (by omega) (by omega)
        have b6 := rText_bad b7
        have b6 := rNum_bad (w := 1) b6 (by omega) (by omega)
        have b5 := rNum_bad (w := 7) b6 (by omega) (by omega)
        have b4 := rNum_bad (w := 1) b5 (by omega) (by omega)
        obtain ⟨m4, l4, a4⟩ := start b4
        obtain ⟨m5, _, _, l5, a5⟩ := num_inv (w := 1) (by omega) (by omega) a4 b5
        obtain ⟨m6, _, _, l6, a6⟩ := num_inv (w := 7) (by omega) (by omega) a5 b6
        obtain ⟨m7, _, l7, a7⟩ := text_inv a6 b7
        obtain ⟨m8, _, _, l8, a8⟩ := num_inv (w := 7) (by omega) (by omega) a7 b8
        obtain ⟨m9, _, _, l9, a9⟩ := num_inv (w := 1) (by omega) (by omega) a8 b9
        obtain ⟨m10, _, l10, a10⟩ := id_inv a9 b10
        obtain ⟨m11, _, l11, a11⟩ := key_inv a10 hb'
        have := fin m11 a11
        subst this
        rw [l4, l5, l6, l7, l8, l9, l10, l11]
        simp only [app_list, List.append_assoc, List.append_nil]
        rfl
      · rw [if_neg c1]
        by_cases c2 : (rNum r 1).2 = 2
        · rw [if_pos c2]
          unfold readP at hb' fin ⊢
          simp only at hb' fin ⊢
          rw [if_neg c1, if_pos c2] at hb' fin ⊢
          simp only at hb' fin ⊢
          have b6 := (rFlag_bad hb').1
          have b6 := rNum_bad (w := 1) b6 (by omega) (by omega)
          have b5 := rNum_bad (w := 4) b6 (by omega) (by omega)
          have b4 := rNum_bad (w := 1) b5 (by omega) (by omega)
          obtain ⟨m4, l4, a4⟩ := start b4
          obtain ⟨m5, _, _, l5, a5⟩ := num_inv (w := 1) (by omega) (by omega) a4 b5
          obtain ⟨m6, _, _, l6, a6⟩ := num_inv (w := 4) (by omega) (by omega) a5 b6
          obtain ⟨m7, l7, a7⟩ := flag_inv a6 hb'
          have := fin m7 a7
          subst this
          rw [l4, l5, l6, l7]
          simp only [app_list, List.append_assoc, List.append_nil]
          rfl
        · rw [if_neg c2]
          by_cases c4 : (rNum r 1).2 = 4
          · rw [if_pos c4]
            unfold readP at hb' fin ⊢
            simp only at hb' fin ⊢
            rw [if_neg c1, if_neg c2, if_pos c4] at hb' fin ⊢
            simp only at hb' fin ⊢
            have b4 := rNum_bad (w := 7) hb' (by omega) (by omega)
            obtain ⟨m4, l4, a4⟩ := start b4
            obtain ⟨m5, _, _, l5, a5⟩ := num_inv (w := 7) (by omega) (by omega) a4 hb'
            have := fin m5 a5
            subst this
            rw [l4, l5, List.append_nil]
            rfl
          · rw [if_neg c4]
            by_cases c5 : (rNum r 1).2 = 5
            · rw [if_pos c5]
              unfold readP at hb' fin ⊢
              simp only at hb' fin ⊢
              rw [if_neg c1, if_neg c2, if_neg c4, if_pos c5] at hb' fin ⊢
              simp only at hb' fin ⊢
              have b4 := rNum_bad (w := 7) hb' (by omega) (by omega)
              obtain ⟨m4, l4, a4⟩ := start b4
              obtain ⟨m5, _, _, l5, a5⟩ := num_inv (w := 7) (by omega) (by omega) a4 hb'
              have := fin m5 a5
              subst this
              rw [l4, l5, List.append_nil, Int.sub_add_cancel]
              rfl
            · rw [if_neg c5]
              have c3 : (rNum r 1).2 = 3 := by omega
              unfold readP at hb' fin
              simp only at hb' fin
              rw [if_neg c1, if_neg c2, if_neg c4, if_neg c5, if_pos c3] at hb' fin
              simp only at hb' fin
              obtain ⟨m4, l4, a4⟩ := start hb'
              have := fin m4 a4
              subst this
              rw [l4]
    · exfalso
      rw [if_pos (by simpa using hok)] at h
      exact absurd h (by decide)
  · exfalso
    rw [if_pos hb] at h
    exact hb h
end Go.Proofs.Ytfpincfmcjiokaa.Sp
