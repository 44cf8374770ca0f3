/- One text out of several: Av19, Av20, Av21, Av22, Av23, Sp33, Sp34, Cn0, Cn109d, Sp35, Cn141, Cn90, Cn142, Cn143, Cn144, Cn146, Cn1, Cn147, Cn148. No condition but theirs. -/
import Derived.RangeFuncRecord
import Derived.RangeFuncSeq
import Derived.Lib.ItoaNum
import Derived.Test.YtijohhdgecadnaaDoorProg
import Derived.KernelRfl
import Derived.Test.YtijohhdgecadnaaDoorZHeaderFormats4
namespace Go.Proofs.YtijohhdgecadnaaDoor.Av
open Go Go.RowKit
set_option linter.unusedVariables false
set_option linter.unusedSimpArgs false

/-- What is told of a state may be told in other words. -/
theorem Fun.conv {P : Program} {f : FuncId} {args : List G} {bs : List (List G)} {rs : List (List (List G))} {R R' : G → List (Option (List G)) → List (Option (List (List G))) → Prop} (h : Fun P f args bs rs R)
    (hc : ∀ (C : Cx) (w : World) (v : Value) g bs' rs', R g bs' rs' → Rep C w g v → Mem C w bs' rs' → ∃ C' g' bs'' rs'', R' g' bs'' rs'' ∧ Rep C' w g' v ∧ Mem C' w bs'' rs'' ∧ C'.box = C.box ∧ C'.ex = C.ex ∧
      ∀ k B s sz n, C'.row k = some (some (B, s, sz, n)) → ∃ k', C.row k' = some (some (B, s, sz, n))) : Fun P f args bs rs R' := by
  refine ⟨h.1, fun C w t0 vs hl hr hM ht hb hr' hfx => (h.2 C w t0 vs hl hr hM ht hb hr' hfx).mono fun e w' q => ?_⟩
  obtain ⟨v, C', g, bs', rs', h1, h2, h3, h4, h5⟩ := q
  obtain ⟨C2, g2, b2, r2, k1, k2, k3, k4, k5, k6⟩ := hc C' w' v g bs' rs' h2 h3 h4
  refine ⟨v, C2, g2, b2, r2, h1, k1, k2, k3, ⟨fun b B hB => by rw [k4]; exact h5.box b B hB, h5.fr, fun B hB => by rw [k5]; exact h5.ex B hB, fun B hB => h5.exn B (by rw [← k5]; exact hB), fun b B hB => h5.tb b B (by rw [← k4]; exact hB), fun k B s sz n hk => ?_⟩⟩
  obtain ⟨k', hk'⟩ := k6 k B s sz n hk
  exact h5.tr k' B s sz n hk'
/-- Other rows of the same memory: new row i is the old row p i, with as many of its elements. -/
theorem Mem.rerow {C : Cx} {w : World} {bs : List (Option (List G))} {rs rs' : List (Option (List (List G)))} (h : Mem C w bs rs) (p : Nat → Option Nat) (hp : ∀ i j k, p i = some k → p j = some k → i = j)
    (hr : ∀ i xs, rs'[i]? = some (some xs) → ∃ k ys, p i = some k ∧ rs[k]? = some (some (xs ++ ys)) ∧ (ys = [] ∨ xs ≠ [] ∧ ¬ MapAt C w k (xs ++ ys)))
    (hd : ∀ i k, p i = some k → (∃ xs, rs[k]? = some (some xs)) → ∃ xs, rs'[i]? = some (some xs))
    (hb : ∀ cs, some cs ∈ bs → ∀ g ∈ cs, refR0 g = [] ∧ ∀ f caps, g ≠ .fn f caps ∧ g ≠ .meth f caps) :
    Mem { C with row := fun i => (p i).bind C.row } w bs rs' := by
  have lead : Leads C { C with row := fun i => (p i).bind C.row } w w some (fun _ => none) := ⟨fun b i B e hB => (by cases e; exact hB), fun k i q e => (by cases e), Keeps.refl _ _, fun _ _ h => h⟩
  have ren_id : ∀ g : G, refR0 g = [] → (∀ f caps, g ≠ .fn f caps ∧ g ≠ .meth f caps) → ren0 some (fun _ => none) g = g := fun g h1 h2 => by
    cases g <;> first | rfl | (simp [refR0] at h1; done) | exact absurd rfl (h2 _ _).1 | exact absurd rfl (h2 _ _).2
  refine ⟨fun b cs hx => ?_, fun i xs hx => ?_, h.domB, fun i r hi => ?_, h.bb, fun i j B s sz n s' sz' n' h1 h2 => ?_, fun b k B s sz n h1 h2 => ?_, h.lt⟩
  · obtain ⟨B, vs, T, k1, k2, k3, k4, k5, k6⟩ := h.box b cs hx
    refine ⟨B, vs, T, k1, k2, k3, k4, k5, fun i g v hg hv => ⟨(k6 i g v hg hv).1, ?_⟩⟩
    have hm := hb cs (List.mem_of_getElem? hx) g (List.mem_of_getElem? hg)
    have := ((k6 i g v hg hv).2).ren0 lead (k6 i g v hg hv).1
    rwa [ren_id g hm.1 hm.2] at this
  · obtain ⟨k, ys, e1, e2, e3⟩ := hr i xs hx
    have er : ∀ q, C.row k = q → ((p i).bind C.row) = q := fun q hq => by rw [e1]; exact hq
    rcases h.row k _ e2 with ⟨k1, k2⟩ | ⟨B, s, sz, n, vs, T, fz, k1, k2, k3, k4, k5, k6, k7, k8, k9⟩ | km
    · obtain ⟨rfl, rfl⟩ := List.append_eq_nil_iff.1 k2
      exact .inl ⟨er _ k1, rfl⟩
    · refine .inr (.inl ⟨B, s, sz, n, vs, T, fz, er _ k1, k2, k3, k4, ?_, k6, k7, fun r hr => k8 r (List.mem_append_left _ hr), fun a r j g v h1 h2 h3 => ?_⟩)
      · rcases e3 with rfl | ⟨e3, _⟩
        · simpa using k5
        · exact ⟨List.length_pos_iff.2 e3, by have := k5.2; rw [List.length_append] at this; omega⟩
      · have h1' : (xs ++ ys)[a]? = some r := by rw [List.getElem?_append_left (List.getElem?_eq_some_iff.1 h1).1]; exact h1
        exact (k9 a r j g v h1' h2 h3).keep0 ((k8 r (List.mem_of_getElem? h1')).2 g (List.mem_of_getElem? h2)) (Keeps.refl _ _) (fun _ _ h => h)
    · rcases e3 with rfl | ⟨_, e3⟩
      · rw [List.append_nil] at km
        exact .inr (.inr (km.move (fun q hq => er _ hq) (fun _ _ _ h => h) (fun _ _ _ => rfl) (fun g u hg hu => hu.keep0 hg (Keeps.refl _ _) (fun _ _ h => h))))
      · exact absurd km e3
  · cases hpi : p i with
    | none => have hi' : ((p i).bind C.row) = some r := hi; rw [hpi] at hi'; cases hi'
    | some k =>
      have hi' : ((p i).bind C.row) = some r := hi
      rw [hpi] at hi'
      exact hd i k hpi (h.domR k r hi')
  · have h1' : ((p i).bind C.row) = some (some (B, s, sz, n)) := h1
    have h2' : ((p j).bind C.row) = some (some (B, s', sz', n')) := h2
    obtain ⟨k, hk, h3⟩ := Option.bind_eq_some_iff.1 h1'
    obtain ⟨k', hk', h4⟩ := Option.bind_eq_some_iff.1 h2'
    obtain rfl := h.rr k k' B s sz n s' sz' n' h3 h4
    exact hp i j k hk hk'
  · have h2' : ((p k).bind C.row) = some (some (B, s, sz, n)) := h2
    obtain ⟨k', hk, h3⟩ := Option.bind_eq_some_iff.1 h2'
    exact h.br b k' B s sz n h1 h3
/-- The contract's first row cut short. -/
theorem Fp.cut {P : Program} {f : FuncId} {args : List G} {bs : List (List G)} {rs : List (List (List G))} {m : Nat} {xs ys : List (List G)} {rt : List (Option (List (List G)))} {g0 : G} (hx : xs ≠ []) (hg : ownG g0 = .own 0 0 m)
    (h : Fp P f args bs rs (g0, [], some (xs ++ ys) :: rt)) : Fp P f args bs rs (.own 0 0 m, [], some xs :: rt) := by
  refine Fun.conv h fun C w v g b r ⟨h1, h2, h3⟩ hr hM => ?_
  simp only at h1 h2 h3
  subst h1; subst h2; subst h3
  have hr' : Rep C w (.own 0 0 m) v := by rw [← hg]; exact hr.ownG
  refine ⟨C, _, _, _, ⟨rfl, rfl, rfl⟩, hr', ?_, rfl, rfl, fun k B s sz n hk => ⟨k, hk⟩⟩
  have := hM.rerow (rs' := some xs :: rt) (fun i => some i) (fun i j k e1 e2 => by cases e1; cases e2; rfl) (fun i zs hz => ?_) (fun i k e ⟨zs, hz⟩ => ?_) (fun cs hcs => by simp at hcs)
  · exact this
  · cases i with
    | zero =>
      have e : xs = zs := by simpa using hz
      subst e
      exact ⟨0, ys, rfl, by simp, .inr ⟨hx, fun km => hr'.own_nm km⟩⟩
    | succ i => exact ⟨i + 1, [], rfl, by simpa using hz, .inl rfl⟩
  · cases e
    cases i with
    | zero => exact ⟨xs, rfl⟩
    | succ i => exact ⟨zs, by simpa using hz⟩
/-- A new row, told in the place of the old one. -/
theorem Fp.swap {P : Program} {f : FuncId} {args : List G} {bs : List (List G)} {rs : List (List (List G))} {m : Nat} {xs zs : List (List G)}
    (h : Fp P f args bs rs (.own 1 0 m, [], [some xs, some zs])) : Fp P f args bs rs (.own 0 0 m, [], [some zs]) := by
  refine Fun.conv h fun C w v g b r ⟨h1, h2, h3⟩ hr hM => ?_
  simp only at h1 h2 h3
  subst h1; subst h2; subst h3
  let p : Nat → Option Nat := fun i => match i with | 0 => some 1 | _ => none
  have e0 : ∀ q, C.row 1 = q → (p 0).bind C.row = q := fun q h => h
  refine ⟨{ C with row := fun i => (p i).bind C.row }, _, _, _, ⟨rfl, rfl, rfl⟩, ?_, hM.rerow (rs' := [some zs]) p (fun i j k e1 e2 => ?_) (fun i xs' hz => ?_) (fun i k e hz => ?_) (fun cs hcs => by simp at hcs), rfl, rfl, fun k B s sz n hk => ?_⟩
  · cases hr with
    | own _ _ _ B s sz n a q1 q2 q3 q4 => exact .own 0 0 m B s sz n a (e0 _ q1) q2 q3 q4
    | ownnil _ A q1 => exact .ownnil 0 A (e0 _ q1)
  · match i, j, e1, e2 with
    | 0, 0, _, _ => rfl
    | 0, j + 1, _, e2 => simp [p] at e2
    | i + 1, _, e1, _ => simp [p] at e1
  · match i, hz with
    | 0, hz => exact ⟨1, [], rfl, by simpa using hz, .inl rfl⟩
  · match i, e with
    | 0, _ => exact ⟨_, rfl⟩
  · obtain ⟨k', _, h⟩ := Option.bind_eq_some_iff.1 hk
    exact ⟨k', h⟩
/-- .. in a variable. -/
theorem Fp.swapB {P : Program} {f : FuncId} {args : List G} {bs : List (List G)} {rs : List (List (List G))} {m : Nat} {xs zs : List (List G)} {g0 : G} (hg : g0.closed0 = true ∨ g0 = .tup [])
    (h : Fp P f args bs rs (g0, [some [.own 1 0 m]], [some xs, some zs])) : Fp P f args bs rs (g0, [some [.own 0 0 m]], [some zs]) := by
  refine Fun.conv h fun C w v g b r ⟨h1, h2, h3⟩ hr hM => ?_
  simp only at h1 h2 h3
  subst h1; subst h2; subst h3
  let p : Nat → Option Nat := fun i => match i with | 0 => some 1 | _ => none
  let C' : Cx := { C with row := fun i => (p i).bind C.row }
  have e0 : ∀ q, C.row 1 = q → C'.row 0 = q := fun q h => h
  have eI : ∀ k q, C'.row k = some q → k = 0 ∧ C.row 1 = some q := fun k q hk => by
    obtain ⟨k', h1, h2⟩ := Option.bind_eq_some_iff.1 (show (p k).bind C.row = some q from hk)
    match k, h1 with
    | 0, h1 => cases h1; exact ⟨rfl, h2⟩
  have hval : Rep C' w g v := by
    rcases hg with hg | rfl
    · exact hr.keep0 hg (Keeps.refl _ _) (fun _ _ h => h)
    · cases hr with
      | tup _ vs hl _ => exact .tup [] vs hl (fun i g v hg => by simp at hg)
  refine ⟨C', _, _, _, ⟨rfl, rfl, rfl⟩, hval, ⟨fun b cs hx => ?_, fun i ys hx => ?_, fun b B hB => ?_, fun i r hi => ?_, hM.bb, fun i j B s sz n s' sz' n' h1 h2 => ?_, fun b k B s sz n h1 h2 => hM.br b 1 B s sz n h1 (eI _ _ h2).2, hM.lt⟩, rfl, rfl, fun k B s sz n hk => ⟨1, (eI _ _ hk).2⟩⟩
  · cases b with
    | succ b => simp at hx
    | zero =>
      simp at hx; subst hx
      obtain ⟨B, vs, T, k1, k2, k3, k4, k5, k6⟩ := hM.box 0 _ rfl
      refine ⟨B, vs, T, k1, k2, k3, k4, k5, fun i g v hg hv => ?_⟩
      match i, hg with
      | 0, hg =>
        cases hg
        have := (k6 0 _ v rfl hv).2
        cases this with
        | own _ _ _ B s sz n a q1 q2 q3 q4 => exact ⟨rfl, .own 0 0 m B s sz n a (e0 _ q1) q2 q3 q4⟩
        | ownnil _ A q1 => exact ⟨rfl, .ownnil 0 A (e0 _ q1)⟩
  · match i, hx with
    | 0, hx =>
      rcases hM.row 1 ys hx with ⟨k1, k2⟩ | ⟨B, s, sz, n, vs, T, fz, k1, k2, k3, k4, k5, k6, k7, k8, k9⟩ | km
      · exact .inl ⟨e0 _ k1, k2⟩
      · exact .inr (.inl ⟨B, s, sz, n, vs, T, fz, e0 _ k1, k2, k3, k4, k5, k6, k7, k8, fun a r j g v h1 h2 h3 => (k9 a r j g v h1 h2 h3).keep0 ((k8 r (List.mem_of_getElem? h1)).2 g (List.mem_of_getElem? h2)) (Keeps.refl _ _) (fun _ _ h => h)⟩)
      · exact .inr (.inr (km.move (fun q hq => e0 _ hq) (fun _ _ _ h => h) (fun _ _ _ => rfl) (fun g u hg hu => hu.keep0 hg (Keeps.refl _ _) (fun _ _ h => h))))
  · obtain ⟨cs, hcs⟩ := hM.domB b B hB
    cases b with
    | zero => exact ⟨_, rfl⟩
    | succ b => simp at hcs
  · obtain ⟨rfl, _⟩ := eI i r hi
    exact ⟨_, rfl⟩
  · rw [(eI _ _ h1).1, (eI _ _ h2).1]
/-- A nil list in a variable that comes back, told as an own row of no elements. -/
theorem Fp.none0B {P : Program} {f : FuncId} {args : List G} {n l : Nat} {xs : List (List G)} (h : Fp P f args [] [] (.ptr 0 0, [some [.nils, .mp 0 n l]], [some xs])) : Fp P f args [] [] (.ptr 0 0, [some [.own 0 0 0, .mp 1 n l]], [some [], some xs]) := by
  refine Fun.conv h fun C w v g b r ⟨h1, h2, h3⟩ hr hM => ?_
  simp only at h1 h2 h3
  subst h1; subst h2; subst h3
  let C' : Cx := { C with row := fun i => if i = 0 then some none else if i = 1 then C.row 0 else none }
  have e0 : C'.row 0 = some none := rfl
  have e1 : ∀ q, C.row 0 = q → C'.row 1 = q := fun q h => h
  have eI : ∀ k q, C'.row k = some (some q) → k = 1 ∧ C.row 0 = some (some q) := fun k q hk => by
    have hk' : (if k = 0 then some none else if k = 1 then C.row 0 else none) = some (some q) := hk
    split at hk'
    · cases hk'
    · split at hk'
      · exact ⟨by assumption, hk'⟩
      · cases hk'
  have hptr : Rep C' w (.ptr 0 0) v := by
    cases hr with
    | ptr _ _ B hb => exact .ptr 0 0 B hb
  refine ⟨C', _, _, _, ⟨rfl, rfl, rfl⟩, hptr, ⟨fun b cs hx => ?_, fun i ys hx => ?_, fun b B hB => ?_, fun i r hi => ?_, hM.bb, fun i j B s sz n s' sz' n' h1 h2 => ?_, fun b k B s sz n h1 h2 => hM.br b 0 B s sz n h1 (eI _ _ h2).2, hM.lt⟩, rfl, rfl, fun k B s sz n hk => ⟨0, (eI _ _ hk).2⟩⟩
  · cases b with
    | succ b => simp at hx
    | zero =>
      simp at hx; subst hx
      obtain ⟨B, vs, T, k1, k2, k3, k4, k5, k6⟩ := hM.box 0 _ rfl
      refine ⟨B, vs, T, k1, k2, k3, k4, k5, fun i g v hg hv => ?_⟩
      match i, hg with
      | 0, hg =>
        cases hg
        have := (k6 0 .nils v rfl hv).2
        cases this
        exact ⟨rfl, .ownnil 0 none e0⟩
      | 1, hg =>
        cases hg
        obtain ⟨q1, q2⟩ := k6 1 _ v rfl hv
        cases q2 with
        | mp _ _ _ B' hr' => exact ⟨rfl, .mp 1 _ _ B' (e1 _ hr')⟩
  · match i, hx with
    | 0, hx => simp at hx; subst hx; exact .inl ⟨e0, rfl⟩
    | 1, hx =>
      rcases hM.row 0 ys hx with ⟨k1, k2⟩ | ⟨B, s, sz, n, vs, T, fz, k1, k2, k3, k4, k5, k6, k7, k8, k9⟩ | km
      · exact .inl ⟨e1 _ k1, k2⟩
      · exact .inr (.inl ⟨B, s, sz, n, vs, T, fz, e1 _ k1, k2, k3, k4, k5, k6, k7, k8, fun a r j g v h1 h2 h3 => (k9 a r j g v h1 h2 h3).keep0 ((k8 r (List.mem_of_getElem? h1)).2 g (List.mem_of_getElem? h2)) (Keeps.refl _ _) (fun _ _ h => h)⟩)
      · exact .inr (.inr (km.move (fun q hq => e1 _ hq) (fun _ _ _ h => h) (fun _ _ _ => rfl) (fun g u hg hu => hu.keep0 hg (Keeps.refl _ _) (fun _ _ h => h))))
  · obtain ⟨cs, hcs⟩ := hM.domB b B hB
    cases b with
    | zero => exact ⟨_, rfl⟩
    | succ b => simp at hcs
  · match i with
    | 0 => exact ⟨_, rfl⟩
    | 1 => exact ⟨_, rfl⟩
    | i + 2 =>
      have hi' : (if i + 2 = 0 then some none else if i + 2 = 1 then C.row 0 else none) = some r := hi
      rw [if_neg (by omega), if_neg (by omega)] at hi'
      cases hi'
  · rw [(eI _ _ h1).1, (eI _ _ h2).1]
/-- An own row that is handed over: all its cells are known, whatever they are. -/
theorem Fp.ownf {P : Program} {f : FuncId} {args : List G} {bs : List (List G)} {rs : List (List (List G))} {n sz : Nat} {xs : List (List G)} {q : G × List (Option (List G)) × List (Option (List (List G)))} (hne : xs ≠ []) (hsz : ∀ r ∈ xs, r.length = sz)
    (h : ∀ (S : List (List G)) (N : Nat), (∀ r ∈ S, r.length = sz ∧ ∀ g ∈ r, g.closed0 = true) → (xs ++ S).length = N → Fp P f (.ownf 0 0 n N :: args) bs ((xs ++ S) :: rs) q) : Fp P f (.own 0 0 n :: args) bs (xs :: rs) q := by
  refine ⟨(h [] xs.length (fun r hr => by simp at hr) (by simp)).1, fun C w t0 vs hl hr hM ht hb hr' hfx => ?_⟩
  match vs, hl with
  | v :: vs, hl =>
  have hv := hr 0 _ v rfl rfl
  rcases hM.row2 (k := 0) (xs := xs) rfl (fun km => hv.own_nm km) with ⟨_, e⟩ | ⟨B, s, z, N, us, T, fz, k1, k2, k3, k4, k5, k6, k7, k8, k9⟩
  · exact absurd e hne
  have hz : z = sz := by
    obtain ⟨x, hx⟩ := List.exists_mem_of_ne_nil xs hne
    rw [← (k8 x hx).1, hsz x hx]
  subst hz
  let S : List (List G) := (List.range (N - xs.length)).map fun i => (List.range z).map fun j => .lit (us.getD (s + (xs.length + i) * z + j) (.bool true))
  have hS : ∀ r ∈ S, r.length = z ∧ ∀ g ∈ r, g.closed0 = true := fun r hr => by
    obtain ⟨i, _, rfl⟩ := List.mem_map.1 hr
    refine ⟨by simp, fun g hg => ?_⟩
    obtain ⟨j, _, rfl⟩ := List.mem_map.1 hg
    rfl
  have hlen : (xs ++ S).length = N := by simp [S]; omega
  refine (h S N hS hlen).2 C w t0 _ (by simpa using hl) (fun i g u hg hu => ?_) { hM with row := fun k ys hk => ?_, domR := fun k r hk => ?_ } ht hb hr' hfx
  · cases i with
    | zero =>
      simp at hg hu; subst hg; subst hu
      cases hv with
      | own _ _ _ B' s' z' N' a q1 q2 q3 q4 => rw [k1] at q1; cases q1; exact .ownf 0 0 n _ _ _ _ a k1 q2 q3 q4
      | ownnil _ A q1 => rw [k1] at q1; cases q1
    | succ i => exact hr (i + 1) g u (by simpa using hg) (by simpa using hu)
  · cases k with
    | zero =>
      simp at hk; subst hk
      refine .inr (.inl ⟨B, s, z, N, us, T, fz, k1, k2, k3, k4, by rw [hlen]; omega, k6, k7, fun r hr => ?_, fun i r j g v h1 h2 h3 => ?_⟩)
      · rcases List.mem_append.1 hr with hr | hr
        · exact k8 r hr
        · exact hS r hr
      · by_cases hlt : i < xs.length
        · rw [List.getElem?_append_left hlt] at h1
          exact k9 i r j g v h1 h2 h3
        · rw [List.getElem?_append_right (by omega)] at h1
          simp only [S, List.getElem?_map] at h1
          obtain ⟨i', hi', rfl⟩ := Option.map_eq_some_iff.1 h1
          rw [List.getElem?_map] at h2
          obtain ⟨j', hj', rfl⟩ := Option.map_eq_some_iff.1 h2
          obtain ⟨_, rfl⟩ := List.getElem?_eq_some_iff.1 hi'
          obtain ⟨_, rfl⟩ := List.getElem?_eq_some_iff.1 hj'
          simp only [List.getElem_range]
          have e : us.getD (s + (xs.length + (i - xs.length)) * z + j) (.bool true) = v := by
            rw [show xs.length + (i - xs.length) = i from by omega, List.getD_eq_getElem?_getD, h3]; rfl
          rw [e]
          exact .lit v (k7 v (List.mem_of_getElem? h3))
    | succ k => exact hM.row (k + 1) ys (by simpa using hk)
  · obtain ⟨ys, hys⟩ := hM.domR k r hk
    cases k with
    | zero => exact ⟨_, rfl⟩
    | succ k => exact ⟨ys, by simpa using hys⟩
/-- Nil lists among the arguments, told as empty ones. -/
theorem Fp.nlA {P : Program} {f : FuncId} {args : List G} {bs : List (List G)} {rs : List (List (List G))} {q : G × List (Option (List G)) × List (Option (List (List G)))} (h : Fp P f (args.map nl) bs rs q) : Fp P f args bs rs q := by
  refine ⟨h.1, fun C w t0 vs hl hr hM h1 h2 h3 h4 => h.2 C w t0 vs (by simpa using hl) (fun i g v hg hv => ?_) hM h1 h2 h3 h4⟩
  rw [List.getElem?_map] at hg
  obtain ⟨x, hx, rfl⟩ := Option.map_eq_some_iff.1 hg
  exact (hr i x v hx hv).nl
end Go.Proofs.YtijohhdgecadnaaDoor.Av
namespace Go.Proofs.YtijohhdgecadnaaDoor.Av
open Go Go.RowKit
set_option linter.unusedVariables false
set_option linter.unusedSimpArgs false

/-- Blocks that hold cells, and maps, lie as they lay. -/
structure Keep2 (w w' : World) : Prop where
  size : w.heap.size ≤ w'.heap.size
  cells : ∀ (B : Nat) (vs : Array Value) (T : TypeId) (fz : Nat × Nat), w.heap[B]? = some (.cells vs T fz) → w'.heap[B]? = some (.cells vs T fz)
  map : ∀ (B : Nat) (es : Array MapEntry) (c : Nat), w.heap[B]? = some (.map es c) → w'.heap[B]? = some (.map es c)
theorem Keep2.cell {w w' : World} (h : Keep2 w w') {a : Addr} {v : Value} (hv : w.cell? a = some v) : w'.cell? a = some v := by
  unfold World.cell? at hv ⊢
  cases ho : w.heap[a.block]? with
  | none => rw [ho] at hv; cases hv
  | some o =>
    rw [ho] at hv
    cases o with
    | cells vs T fz => rw [h.cells _ _ _ _ ho]; exact hv
    | _ => cases hv
theorem Rep.keep2 {C : Cx} {w w' : World} {g : G} {v : Value} (h : Rep C w g v) (hk : Keep2 w w') : Rep C w' g v := by
  induction h with
  | int k n => exact .int k n
  | bool b => exact .bool b
  | str s => exact .str s
  | lit v h => exact .lit v h
  | fn f caps vs hl h ih => exact .fn f caps vs hl ih
  | meth f caps vs hl h ih => exact .meth f caps vs hl ih
  | agg gs vs hl hc hv h ih => exact .agg gs vs hl hc hv ih
  | tup gs vs hl h ih => exact .tup gs vs hl ih
  | nils => exact .nils
  | emp A => exact .emp A
  | ne a cap => exact .ne a cap
  | slnil A cap h => exact .slnil A cap h
  | sl xs a cap sz f ha hlt hex hcap hsz hcl hcell h ih =>
    exact .sl xs a cap sz f ha (Nat.lt_of_lt_of_le hlt hk.size) hex hcap hsz hcl (fun i r j g h1 h2 => hk.cell (hcell i r j g h1 h2)) ih
  | own k off len B s sz n a hr0 ho ha hn => exact .own k off len B s sz n a hr0 ho ha hn
  | ownnil k A hr0 => exact .ownnil k A hr0
  | ptr b off B hb0 => exact .ptr b off B hb0
  | elt row off B o f hlt hex hcl hcell h ih =>
    exact .elt row off B o f (Nat.lt_of_lt_of_le hlt hk.size) hex hcl (fun j g h1 => hk.cell (hcell j g h1)) ih
  | eltw k i off B s sz n hr0 hn => exact .eltw k i off B s sz n hr0 hn
  | dat k B s sz n hn hr0 => exact .dat k B s sz n hn hr0
  | datnil k p hr0 => exact .datnil k p hr0
  | dead v h => exact .dead v h
  | junk v => exact .junk v
  | und => exact .und
  | nilt => exact .nilt
  | ptrt b T n B vs fz hb0 ht hn => exact .ptrt b T n B vs fz hb0 (hk.cells _ _ _ _ ht) hn
  | ownt k len T B n vs fz hr0 ho ht => exact .ownt k len T B n vs fz hr0 ho (hk.cells _ _ _ _ ht)
  | owntnil k T hr0 => exact .owntnil k T hr0
  | datt k T B n vs fz hr0 ht => exact .datt k T B n vs fz hr0 (hk.cells _ _ _ _ ht)
  | dattnil k T hr0 => exact .dattnil k T hr0
  | mp k kn fl B hr0 => exact .mp k kn fl B hr0
  | ownf k off len B s sz n a hr0 ho ha hn => exact .ownf k off len B s sz n a hr0 ho ha hn
theorem Mem.keep2 {C : Cx} {w w' : World} {bs : List (Option (List G))} {rs : List (Option (List (List G)))} (h : Mem C w bs rs) (hk : Keep2 w w') : Mem C w' bs rs := by
  refine ⟨fun b cs hb => ?_, fun k xs hx => ?_, h.domB, h.domR, h.bb, h.rr, h.br, fun B hB => Nat.lt_of_lt_of_le (h.lt B hB) hk.size⟩
  · obtain ⟨B, vs, T, k1, k2, k3, k4, k5, k6⟩ := h.box b cs hb
    exact ⟨B, vs, T, k1, k2, hk.cells _ _ _ _ k3, k4, k5, fun i g v hg hv => ⟨(k6 i g v hg hv).1, (k6 i g v hg hv).2.keep2 hk⟩⟩
  · rcases h.row k xs hx with k1 | ⟨B, s, sz, n, vs, T, fz, k1, k2, k3, k4, k5, k6, k6b, k7, k8⟩ | ⟨B, kn, fl, es, clock, k1, k2, k3, k4, k5⟩
    · exact .inl k1
    · exact .inr (.inl ⟨B, s, sz, n, vs, T, fz, k1, k2, hk.cells _ _ _ _ k3, k4, k5, k6, k6b, k7, fun i r j g v a1 a2 a3 => (k8 i r j g v a1 a2 a3).keep2 hk⟩)
    · refine .inr (.inr ⟨B, kn, fl, es, clock, k1, k2, hk.map _ _ _ k3, k4, fun i e r hi hr => ?_⟩)
      obtain ⟨q1, q2, q3, q4⟩ := k5 i e r hi hr
      exact ⟨q1, q2, q3.mono fun g _ u hu => hu.keep2 hk, q4.mono fun g _ u hu => hu.keep2 hk⟩
/-- Where w' is w but for new blocks, and for blocks laid since w0 that hold no cells. -/
theorem Fr.keep2 {t0 : Nat → Prop} {w0 w w' : World} (h : Fr t0 w0 w) (hk : Keep2 w w') (hb : ∀ B, B < w0.heap.size → w'.heap[B]? = w.heap[B]?) (h1 : w'.os = w.os) (h2 : w'.tape = w.tape) (h3 : w'.output = w.output) : Fr t0 w0 w' :=
  ⟨h1.trans h.os, h2.trans h.tape, h3.trans h.output, Nat.le_trans h.size hk.size, fun B hB hn => (hb B hB).trans (h.block B hB hn), fun B vs T fz hB => by
    obtain ⟨vs', fz', q1, q2⟩ := h.ty B vs T fz hB
    exact ⟨vs', fz', hk.cells _ _ _ _ q1, q2⟩⟩
theorem Inv.keep2 {C : Cx} {F : Fd} {st : St} {a : Act} {w w' : World} (h : Inv C F st a w) (hk : Keep2 w w') (hb : ∀ B, B < F.w0.heap.size → w'.heap[B]? = w.heap[B]?) (h1 : w'.os = w.os) (h2 : w'.tape = w.tape) (h3 : w'.output = w.output) : Inv C F st a w' :=
  ⟨h.nd, h.sz, fun i g v hg hv => (h.slots i g v hg hv).keep2 hk, h.mem.keep2 hk, h.fr.keep2 hk hb h1 h2 h3, h.ex0, h.exn, h.t0, h.tb, h.tr, h.fb⟩
/-- Neither cells nor a map. -/
def nocell (o : Obj) : Bool := match o with | .cells .. => false | .map .. => false | _ => true
theorem keep2_putObj {w : World} {r : Nat} {o o' : Obj} (h : w.heap[r]? = some o) (ho : nocell o = true) : Keep2 w (w.putObj r o') := by
  refine ⟨by simp, fun B vs T fz hB => ?_, fun B es c hB => ?_⟩
  · rw [World.putObj_heap_other (fun e => by subst e; rw [h] at hB; cases hB; cases ho)]; exact hB
  · rw [World.putObj_heap_other (fun e => by subst e; rw [h] at hB; cases hB; cases ho)]; exact hB
theorem keep2_alloc (w : World) (o : Obj) : Keep2 w (w.alloc o) := by
  refine ⟨by simp, fun B vs T fz hB => ?_, fun B es c hB => ?_⟩
  · rw [Below.heap_alloc w _ B (Array.getElem?_eq_some_iff.1 hB).1]; exact hB
  · rw [Below.heap_alloc w _ B (Array.getElem?_eq_some_iff.1 hB).1]; exact hB
theorem Inv.putObj {C : Cx} {F : Fd} {st : St} {a : Act} {w : World} (h : Inv C F st a w) {r : Nat} {o : Obj} (o' : Obj) (hr : w.heap[r]? = some o) (ho : nocell o = true) (hle : F.w0.heap.size ≤ r) : Inv C F st a (w.putObj r o') :=
  h.keep2 (keep2_putObj hr ho) (fun B hB => World.putObj_heap_other (by omega)) rfl rfl rfl
theorem Inv.allocObj {C : Cx} {F : Fd} {st : St} {a : Act} {w : World} (h : Inv C F st a w) (o : Obj) : Inv C F st a (w.alloc o) :=
  h.keep2 (keep2_alloc w o) (fun B hB => Below.heap_alloc w _ B (Nat.lt_of_lt_of_le hB h.fr.size)) rfl rfl rfl

/-! The round's frame. -/
def Cx.sh (C : Cx) (M : Nat) : Cx := { box := fun x => if M ≤ x then C.box (x - M) else none, row := fun _ => none, ex := C.ex }
def St.sh (st : St) : St := ⟨st.slots.map (ren (shift (st.slots.length + 8)) (shift (st.slots.length + 8))), List.replicate (st.slots.length + 8) none ++ st.boxes.map (fun o => o.map fun cs => cs.map (ren0 (shift (st.slots.length + 8)) (shift (st.slots.length + 8)))), List.replicate (st.slots.length + 8) none⟩
/-- What the round has left in the variables that were there. -/
def St.bk (st st1 : St) : List (Option (List G)) := List.zipWith (fun o o1 => match o with | some _ => o1 | none => none) st.boxes (st1.boxes.drop (st.slots.length + 8))
def Fd.rd (F : Fd) (C : Cx) (w : World) (M : Nat) (hfx : Fixed w C.ex) : Fd := ⟨w, fun B => (F.t0 B ∨ F.w0.heap.size ≤ B) ∧ C.ex B, C.ex, (C.sh M).box, hfx, []⟩

theorem Inv.enterR {C : Cx} {F : Fd} {st : St} {a : Act} {w : World} (h : Inv C F st a w) (hrow : ∀ k, C.row k = none) :
    Inv (C.sh (st.slots.length + 8)) (F.rd C w (st.slots.length + 8) h.fixed) st.sh { tmps := a.tmps, defers := [] } w := by
  generalize hMM : st.slots.length + 8 = M
  have c0b : ∀ i : Nat, (C.sh M).box (M + i) = C.box i := fun i => by show (if M ≤ M + i then _ else _) = _; rw [if_pos (by omega), show M + i - M = i from by omega]
  have c0bI : ∀ (x X : Nat), (C.sh M).box x = some X → ∃ i, x = M + i ∧ C.box i = some X := fun x X e => by
    have e' : (if M ≤ x then C.box (x - M) else none) = some X := e
    split at e'
    · exact ⟨x - M, by omega, e'⟩
    · cases e'
  have lead : Leads C (C.sh M) w w (shift M) (shift M) := ⟨fun b i B e hB => by cases e; rw [c0b]; exact hB, fun k i r e hk => (by rw [hrow] at hk; cases hk), Keeps.refl _ _, fun _ _ h => h⟩
  have bsI : ∀ (x : Nat) o, (List.replicate M (none : Option (List G)) ++ st.boxes.map (fun o => o.map fun cs => cs.map (ren0 (shift M) (shift M))))[x]? = some (some o) → ∃ i cs, x = M + i ∧ st.boxes[i]? = some (some cs) ∧ o = cs.map (ren0 (shift M) (shift M)) := fun x o hx => by
    by_cases hlt : x < M
    · rw [List.getElem?_append_left (by simpa using hlt), List.getElem?_replicate] at hx
      split at hx <;> cases hx
    · rw [List.getElem?_append_right (by simp; omega), List.getElem?_map] at hx
      obtain ⟨q, h1, h2⟩ := Option.map_eq_some_iff.1 hx
      obtain ⟨cs, rfl, h3⟩ := Option.map_eq_some_iff.1 h2
      simp only [List.length_replicate] at h1
      exact ⟨x - M, cs, by omega, h1, h3.symm⟩
  have bsO : ∀ (i : Nat) cs, st.boxes[i]? = some (some cs) → (List.replicate M (none : Option (List G)) ++ st.boxes.map (fun o => o.map fun cs => cs.map (ren0 (shift M) (shift M))))[M + i]? = some (some (cs.map (ren0 (shift M) (shift M)))) := fun i cs e => by
    rw [List.getElem?_append_right (by simp), List.getElem?_map]
    simp only [List.length_replicate, show M + i - M = i from by omega, e]; rfl
  unfold St.sh
  rw [hMM]
  refine ⟨rfl, by simpa using h.sz, fun i g v hg hv => ?_, ⟨fun b cs hx => ?_, fun k xs hx => ?_, fun b B hB => ?_, fun k r hk => (by cases hk), fun b b' B h1 h2 => ?_, fun k k' B s sz n s' sz' n' h1 h2 => (by cases h1), fun b k B s sz n h1 h2 => (by cases h2), h.mem.lt⟩,
    ⟨rfl, rfl, rfl, Nat.le_refl _, fun _ _ _ => rfl, fun _ vs _ fz h => ⟨vs, fz, h, rfl⟩⟩, fun _ h => h, fun _ h => .inl h, fun _ h => h.2, fun b B hB => ?_, fun k B s sz n hk => (by cases hk), fun b B hb => ⟨hb, ?_⟩⟩
  · rw [List.getElem?_map] at hg
    obtain ⟨g0, hg0, rfl⟩ := Option.map_eq_some_iff.1 hg
    exact (h.slots i g0 v hg0 hv).ren lead
  · obtain ⟨i, cs0, rfl, h1, rfl⟩ := bsI b cs hx
    obtain ⟨B, us, T, k1, k2, k3, k4, k5, k6⟩ := h.mem.box i cs0 h1
    refine ⟨B, us, T, by rw [c0b]; exact k1, k2, k3, by simp [k4], k5, fun j g v hg hv => ?_⟩
    rw [List.getElem?_map] at hg
    obtain ⟨g0, hg0, rfl⟩ := Option.map_eq_some_iff.1 hg
    obtain ⟨q1, q2⟩ := k6 j g0 v hg0 hv
    exact ⟨cell_ren0 q1 _ _, q2.ren0 lead q1⟩
  · rw [List.getElem?_replicate] at hx
    split at hx <;> cases hx
  · obtain ⟨i, rfl, h1⟩ := c0bI b B hB
    obtain ⟨cs, hcs⟩ := h.mem.domB i B h1
    exact ⟨_, bsO i cs hcs⟩
  · obtain ⟨i, rfl, e1⟩ := c0bI b B h1
    obtain ⟨i', rfl, e2⟩ := c0bI b' B h2
    rw [h.mem.bb i i' B e1 e2]
  · obtain ⟨i, rfl, e1⟩ := c0bI b B hB
    exact .inl ⟨h.tb i B e1, h.mem.ltB e1⟩
  · obtain ⟨i, rfl, e1⟩ := c0bI b B hb
    show (st.slots.map _).length + 8 ≤ M + i
    rw [List.length_map]; omega

theorem Inv.leaveR {C : Cx} {F : Fd} {st : St} {a : Act} {w : World} (h : Inv C F st a w) (hrow : ∀ k, C.row k = none) {C1 : Cx} {st1 : St} {a1 : Act} {w1 : World}
    (h1 : Inv C1 (F.rd C w (st.slots.length + 8) h.fixed) st1 a1 w1) (hcl : ∀ cs, some cs ∈ St.bk st st1 → ∀ g ∈ cs, g.closed0 = true) (n : Nat) :
    Inv { box := C.box, row := fun _ => none, ex := C1.ex } F ⟨st.slots, St.bk st st1, List.replicate n none⟩ a w1 := by
  have fb : ∀ b B, C.box b = some B → C1.box (st.slots.length + 8 + b) = some B := fun b B hb =>
    (h1.fb (st.slots.length + 8 + b) B (by show (if _ then _ else _) = _; rw [if_pos (by omega), show st.slots.length + 8 + b - (st.slots.length + 8) = b from by omega]; exact hb)).1
  have hex : ∀ B, B < w.heap.size → ¬ C.ex B → ¬ C1.ex B := fun B hB hn hx => by
    rcases h1.exn B hx with hx | hx
    · exact hn hx
    · exact absurd hx (by show ¬ w.heap.size ≤ B; omega)
  have hk : Keeps C.ex w w1 := ⟨h1.fr.size, fun B hB hn => h1.fr.block B hB (fun ht => hn ht.2), h1.fr.ty⟩
  let C2 : Cx := { box := C.box, row := fun _ => none, ex := C1.ex }
  have bkI : ∀ (b : Nat) cs, (St.bk st st1)[b]? = some (some cs) → (∃ o, st.boxes[b]? = some (some o)) ∧ st1.boxes[st.slots.length + 8 + b]? = some (some cs) := fun b cs hb => by
    unfold St.bk at hb
    rw [List.getElem?_zipWith] at hb
    cases hx : st.boxes[b]? with
    | none => rw [hx] at hb; cases hb
    | some o =>
      rw [hx, List.getElem?_drop] at hb
      cases hy : st1.boxes[st.slots.length + 8 + b]? with
      | none => rw [hy] at hb; cases hb
      | some o1 =>
        rw [hy] at hb
        cases o with
        | none => cases hb
        | some o => simp at hb; subst hb; exact ⟨⟨o, rfl⟩, rfl⟩
  have bkO : ∀ (b B : Nat), C.box b = some B → ∃ cs, (St.bk st st1)[b]? = some (some cs) := fun b B hb => by
    obtain ⟨o, ho⟩ := h.mem.domB b B hb
    obtain ⟨cs, hcs⟩ := h1.mem.domB _ B (fb b B hb)
    exact ⟨cs, by unfold St.bk; rw [List.getElem?_zipWith, ho, List.getElem?_drop, hcs]⟩
  refine ⟨h.nd, h.sz, fun i g v hg hv => (h.slots i g v hg hv).keep hk hex (fun _ _ h => h) (fun k r hr => by rw [hrow] at hr; cases hr), ⟨fun b cs hb => ?_, fun k xs hx => ?_, fun b B hB => bkO b B hB, fun k r hr => (by cases hr), h.mem.bb, fun k k' B s sz n s' sz' n' e => (by cases e), fun b k B s sz n _ e => (by cases e), h1.mem.lt⟩, ?_, fun B hB => ?_, fun B hB => ?_, h.t0, h.tb, fun k B s sz n hk => (by cases hk), fun b B hb => h.fb b B hb⟩
  · obtain ⟨⟨o, ho⟩, hcs⟩ := bkI b cs hb
    obtain ⟨B0, _, _, e0, _⟩ := h.mem.box b o ho
    obtain ⟨B, us, T, k1, k2, k3, k4, k5, k6⟩ := h1.mem.box _ cs hcs
    rw [fb b B0 e0] at k1; cases k1
    exact ⟨B0, us, T, e0, k2, k3, k4, k5, fun i g v hg hv => ⟨(k6 i g v hg hv).1, (k6 i g v hg hv).2.keep0 (hcl cs (List.mem_of_getElem? hb) g (List.mem_of_getElem? hg)) (Keeps.refl _ _) (fun _ _ h => h)⟩⟩
  · rw [List.getElem?_replicate] at hx
    split at hx <;> cases hx
  · refine ⟨h1.fr.os.trans h.fr.os, h1.fr.tape.trans h.fr.tape, h1.fr.output.trans h.fr.output, Nat.le_trans h.fr.size h1.fr.size, fun B hB hn => ?_, fun B vs T fz hB => h.fr.ty2 h1.fr B vs T fz hB⟩
    have e : w1.heap[B]? = w.heap[B]? := h1.fr.block B (Nat.lt_of_lt_of_le hB h.fr.size) (fun ht => by
      rcases ht.1 with ht | ht
      · exact hn ht
      · omega)
    exact e.trans (h.fr.block B hB hn)
  · exact h1.ex0 B (h.ex0 B hB)
  · rcases h1.exn B hB with hx | hx
    · exact h.exn B hx
    · exact .inr (Nat.le_trans h.fr.size hx)
end Go.Proofs.YtijohhdgecadnaaDoor.Av
namespace Go.Proofs.YtijohhdgecadnaaDoor.Av
open Go Go.RowKit
set_option linter.unusedVariables false
set_option linter.unusedSimpArgs false

/-- An iterator over texts that keeps what is left in one variable of its own (block Bs): at s it hands out xs s. -/
def IterS (P : Program) (gf : FuncId) (ok : ByteArray → Prop) (xs : ByteArray → List ByteArray) : Prop :=
  ∀ (l Bs : Nat) (s : ByteArray) (J : List ByteArray → ByteArray → World → Prop) (Jx : World → Prop) (W : World), ok s →
    (∀ pre r W, J pre r W → ∃ T, W.heap[Bs]? = some (.cells ⟨[.string r]⟩ T (0, 0))) →
    (∀ pre r W, J pre r W → Fixed W (fun B => B = Bs)) →
    (∀ pre r r' W W' T, J pre r W → W.heap[Bs]? = some (.cells ⟨[.string r]⟩ T (0, 0)) → Only W W' Bs [.string r'] T (0, 0) → J pre r' W') →
    (∀ pre r W W', J pre r W → Keep2 W W' → (∀ B, B < W.heap.size → W'.heap[B]? = W.heap[B]?) → W'.os = W.os → W'.tape = W.tape → W'.output = W.output → J pre r W') →
    (∀ pre x suf r W, J pre r W → xs s = pre ++ x :: suf → YieldAt (wideR none) 0 P l #[.string x] W fun e W' =>
      (e = .returned (.bool true) ∧ J (pre ++ [x]) r W') ∨ (e = .returned (.bool false) ∧ Jx W')) →
    J [] s W →
    CallsIn (wideR none) 0 P gf #[.func (.yield l) #[] #[], .pointer (some ⟨Bs, 0, none⟩)] W fun e W' => (∃ v, e = .returned v) ∧ ((∃ r, J (xs s) r W') ∨ Jx W')

theorem Inv.fn1 {C : Cx} {w : World} {gf b : Nat} {v : Value} (h : Rep C w (.fn gf [.ptr b 0]) v) : ∃ B, C.box b = some B ∧ v = .func (.func gf) #[] #[.pointer (some ⟨B, 0, none⟩)] := by
  cases h with
  | fn f caps vs hl h =>
    match vs, hl with
    | [u], _ =>
      have := h 0 _ u rfl rfl
      cases this with
      | ptr _ _ B hb => exact ⟨B, hb, rfl⟩

/-- The round's record is turned ahead of the body, and as well where the round begins. -/
theorem Inv.putBoth {C C1 : Cx} {F : Fd} {st1 : St} {a1 : Act} {W w1 : World} {M : Nat} {hfx : Fixed W C.ex} (h : Inv C1 (F.rd C W M hfx) st1 a1 w1) {L : Nat} {o0 o : Obj} (hL : W.heap[L]? = some o0) (ho : nocell o0 = true) (hex : ¬ C.ex L) (hfx' : Fixed (W.putObj L o) C.ex) :
    Inv C1 (F.rd C (W.putObj L o) M hfx') st1 a1 (w1.putObj L o) ∧ w1.heap[L]? = some o0 := by
  have hlt : L < W.heap.size := (Array.getElem?_eq_some_iff.1 hL).1
  have e1 : w1.heap[L]? = some o0 := (h.fr.block L hlt (fun ht => hex ht.2)).trans hL
  have hk : Keep2 w1 (w1.putObj L o) := keep2_putObj e1 ho
  have hlt1 : L < w1.heap.size := (Array.getElem?_eq_some_iff.1 e1).1
  refine ⟨⟨h.nd, h.sz, fun i g v hg hv => (h.slots i g v hg hv).keep2 hk, h.mem.keep2 hk, ⟨h.fr.os, h.fr.tape, h.fr.output, ?_, fun B hB hn => ?_, fun B vs T fz hB => ?_⟩, h.ex0, fun B hB => ?_, h.t0, fun b B hB => ?_, fun k B s sz n hB => ?_, h.fb⟩, e1⟩
  · show (W.putObj L o).heap.size ≤ (w1.putObj L o).heap.size
    rw [World.putObj_size, World.putObj_size]; exact h.fr.size
  · have hB' : B < (W.putObj L o).heap.size := hB
    rw [World.putObj_size] at hB'
    show (w1.putObj L o).heap[B]? = (W.putObj L o).heap[B]?
    by_cases e : B = L
    · subst e; rw [World.putObj_heap_same hlt1, World.putObj_heap_same hlt]
    · rw [World.putObj_heap_other e, World.putObj_heap_other e]; exact h.fr.block B hB' hn
  · have hB' : (W.putObj L o).heap[B]? = some (.cells vs T fz) := hB
    by_cases e : B = L
    · subst e
      rw [World.putObj_heap_same hlt] at hB'
      exact ⟨vs, fz, by show (w1.putObj B o).heap[B]? = _; rw [World.putObj_heap_same hlt1]; exact hB', rfl⟩
    · rw [World.putObj_heap_other e] at hB'
      obtain ⟨vs', fz', q1, q2⟩ := h.fr.ty B vs T fz hB'
      exact ⟨vs', fz', hk.cells _ _ _ _ q1, q2⟩
  · rcases h.exn B hB with hx | hx
    · exact .inl hx
    · exact .inr (by show (W.putObj L o).heap.size ≤ B; rw [World.putObj_size]; exact hx)
  · rcases h.tb b B hB with hx | hx
    · exact .inl hx
    · exact .inr (by show (W.putObj L o).heap.size ≤ B; rw [World.putObj_size]; exact hx)
  · rcases h.tr k B s sz n hB with hx | hx
    · exact .inl hx
    · exact .inr (by show (W.putObj L o).heap.size ≤ B; rw [World.putObj_size]; exact hx)

/-- How a round may be left: off its end, or by a jump out of the loop. -/
def RoundK (I : List (Option (List G)) → Prop) (Ix : Code → List (Option (List G)) → Prop) (st : St) : Exit → St → Prop
  | .normal, st1 => I (St.bk st st1) ∧ ∀ cs, some cs ∈ St.bk st st1 → ∀ g ∈ cs, g.closed0 = true
  | .ret, st1 => Ix .ret (St.bk st st1) ∧ ∀ cs, some cs ∈ St.bk st st1 → ∀ g ∈ cs, g.closed0 = true
  | .exit id, st1 => Ix (.exit id) (St.bk st st1) ∧ ∀ cs, some cs ∈ St.bk st st1 → ∀ g ∈ cs, g.closed0 = true
  | .goto t, st1 => Ix (.goto t) (St.bk st st1) ∧ ∀ cs, some cs ∈ St.bk st st1 → ∀ g ∈ cs, g.closed0 = true
  | _, _ => False

/-- The function's state behind the loop, with the block for the rounds' deferred calls. -/
structure Behind (F : Fd) (sl : List G) (n : Nat) (a : Act) (bx : List (Option (List G))) (C : Cx) (D : Nat) (w : World) : Prop where
  inv : Inv C F ⟨sl, bx, List.replicate n none⟩ a w
  ge : F.w0.heap.size ≤ D
  nex : ¬ C.ex D
  lies : w.heap[D]? = some (.deferred (some []))

theorem range_str {P : Program} {g : Operand} {p : Tmp} {assign body : Code} {gf : FuncId} {ok : ByteArray → Prop} {xs : ByteArray → List ByteArray} (hit : IterS P gf ok xs) (eg : ∀ args w, (callFunc gf args).run P w = .ok (.enter gf args) w)
    {C : Cx} {F : Fd} {sl : List G} {bx0 : List (Option (List G))} {n : Nat} {a : Act} {w : World} (hi : Inv C F ⟨sl, bx0, List.replicate n none⟩ a w) {b : Nat} {s : ByteArray} (hok : ok s)
    (hg : St.ev ⟨sl, bx0, List.replicate n none⟩ g = .fn gf [.ptr b 0]) (hb : bx0[b]? = some (some [.str s])) (hlb : Nat.blt p sl.length = true)
    (I : List ByteArray → List (Option (List G)) → Prop) (Ix : Code → List (Option (List G)) → Prop)
    (h0 : I [] bx0) (hI : ∀ pre bx r, I pre bx → I pre (bx.set b (some [.str r])))
    (hb1 : ∀ pre bx, I pre bx → ∃ r, bx[b]? = some (some [.str r]))
    (hbk : ∀ pre x suf bx, xs s = pre ++ x :: suf → I pre bx → HasD P assign (St.put (St.sh ⟨sl, bx, List.replicate n none⟩) (some p) (.str x)) fun e st1 => e = .normal ∧ HasD P body st1 (RoundK (fun bx' => I (pre ++ [x]) bx' ∧ bx'[b]? = bx[b]?) Ix ⟨sl, bx, List.replicate n none⟩))
    {Q : Exit → Act → World → Prop}
    (hdone : ∀ bx C' D w', I (xs s) bx → Behind F sl n a bx C' D w' → Q .normal { a with defers := { target := .collected D, args := #[] } :: a.defers } w')
    (hstop : ∀ c bx C' D w', Ix c bx → Behind F sl n a bx C' D w' → c.wpIn (wideR none) 0 P Q { a with defers := { target := .collected D, args := #[] } :: a.defers } w') :
    (Code.rangeFunc g #[p] assign body).wpIn (wideR none) 0 P Q a w := by
  have rowN : ∀ {C' : Cx} {bx : List (Option (List G))} {w' : World}, Inv C' F ⟨sl, bx, List.replicate n none⟩ a w' → ∀ k, C'.row k = none := fun {C' bx w'} h k => by
    cases hk : C'.row k with
    | none => rfl
    | some r =>
      obtain ⟨xs, hx⟩ := h.mem.domR k r hk
      rw [List.getElem?_replicate] at hx
      split at hx <;> cases hx
  obtain ⟨Bs, hBs, hev⟩ := Inv.fn1 (by have := hi.ev g; rwa [hg] at this)
  refine wpIn_rangeFunc ?_
  intro fn hfn
  obtain ⟨rec, hrec⟩ : ∃ rec : LoopState → Option Code → Loop, rec = fun st pe => { state := st, pending := pe, fn, tmps := a.tmps, params := #[p], assign, body, defers := w.heap.size } := ⟨_, rfl⟩
  obtain ⟨W1, hW1⟩ : ∃ W1, (w.alloc (.deferred (some []))).alloc (.loop (rec .ready none)) = W1 := ⟨_, rfl⟩
  generalize hLL : w.heap.size + 1 = L
  have hL1 : W1.heap[L]? = some (.loop (rec .ready none)) := by
    rw [← hW1, ← hLL]; have := World.alloc_heap_new (w.alloc (.deferred (some []))) (.loop (rec .ready none)); rwa [World.size_alloc] at this
  have hK1 : W1.heap[w.heap.size]? = some (.deferred (some [])) := by
    rw [← hW1]; exact (Below.heap_alloc _ _ _ (by simp)).trans (World.alloc_heap_new w _)
  have hI1 : Inv C F ⟨sl, bx0, List.replicate n none⟩ a W1 := by rw [← hW1]; exact (hi.allocObj _).allocObj _
  have nxL : ¬ C.ex L := fun h => by have := hi.mem.lt _ h; omega
  have nxD : ¬ C.ex w.heap.size := fun h => by have := hi.mem.lt _ h; omega
  have geD : F.w0.heap.size ≤ w.heap.size := hi.fr.size
  have geL : F.w0.heap.size ≤ L := by omega
  refine ⟨L, [{ target := .collected w.heap.size, args := #[] }], W1, { target := .fn (.func gf) #[.pointer (some ⟨Bs, 0, none⟩)], args := #[.func (.yield L) #[] #[]] }, W1, gf,
    #[.func (.yield L) #[] #[], .pointer (some ⟨Bs, 0, none⟩)], W1, ?_, ?_, ?_, ?_, fun h => (by cases h), ?_⟩
  · rw [← hW1, hrec, ← hLL]; exact run_enterLoop_outer _ _ _ _ _
  · simp only [resolve, hev]
    simp [go_sem]
  · intro f' hf'; trivial
  · simp [invoke, go_sem, eg]
  · refine (hit L Bs s
      (fun pre r W => ∃ C' bx, I pre bx ∧ bx[b]? = some (some [.str r]) ∧ Inv C' F ⟨sl, bx, List.replicate n none⟩ a W ∧ C'.box b = some Bs ∧ ¬ C'.ex L ∧ ¬ C'.ex w.heap.size ∧ W.heap[L]? = some (.loop (rec .ready none)) ∧ W.heap[w.heap.size]? = some (.deferred (some [])))
      (fun W => ∃ c C' bx, Ix c bx ∧ Inv C' F ⟨sl, bx, List.replicate n none⟩ a W ∧ ¬ C'.ex L ∧ ¬ C'.ex w.heap.size ∧ W.heap[L]? = some (.loop (rec .done (some c))) ∧ W.heap[w.heap.size]? = some (.deferred (some [])))
      W1 hok ?_ ?_ ?_ ?_ ?_ ⟨C, bx0, h0, hb, hI1, hBs, nxL, nxD, hL1, hK1⟩).mono ?_
    · rintro pre r W ⟨C', bx, h1, h2, h3, h4, _⟩
      obtain ⟨B, vs, T, k1, k2, k3, k4, k5, k6⟩ := h3.mem.box b _ h2
      rw [h4] at k1; cases k1
      match vs, k4 with
      | [v], _ =>
        have := (k6 0 _ v rfl rfl).2
        cases this
        exact ⟨T, k3⟩
    · rintro pre r W ⟨C', bx, h1, h2, h3, h4, _⟩
      exact h3.fixed.sub (fun B e => by rw [e]; exact h3.mem.ltB h4)
    · rintro pre r r' W W' T ⟨C', bx, h1, h2, h3, h4, h5, h6, h7, h8⟩ hc ho
      have he : C'.ex Bs := h3.mem.ltB h4
      have := h3.store (us := [.str r']) (ws := [.string r']) (off := 0) h2 h4 hc ho rfl (by simp) (by simp [Value.oneCell']) (fun i g v hg hv => by
        match i with
        | 0 => simp at hg hv; subst hg; subst hv; exact ⟨rfl, .str _⟩
        | i + 1 => simp at hg)
      have hlt : b < bx.length := (List.getElem?_eq_some_iff.1 h2).1
      refine ⟨C', bx.set b (some [.str r']), hI pre bx r' h1, by rw [List.getElem?_set_self hlt], this, h4, h5, h6, ?_, ?_⟩
      · rw [ho.block L (fun e => h5 (by rw [e]; exact he))]; exact h7
      · rw [ho.block _ (fun e => h6 (by rw [e]; exact he))]; exact h8
    · rintro pre r W W' ⟨C', bx, h1, h2, h3, h4, h5, h6, h7, h8⟩ hk hbl e1 e2 e3
      exact ⟨C', bx, h1, h2, h3.keep2 hk (fun B hB => hbl B (Nat.lt_of_lt_of_le hB h3.fr.size)) e1 e2 e3, h4, h5, h6, (hbl L (Array.getElem?_eq_some_iff.1 h7).1).trans h7, (hbl _ (Array.getElem?_eq_some_iff.1 h8).1).trans h8⟩
    · rintro pre x suf r W ⟨C', bx, h1, h2, h3, h4, h5, h6, h7, h8⟩ hx
      have hlt : L < W.heap.size := (Array.getElem?_eq_some_iff.1 h7).1
      have hy := run_yield (P := P) (args := #[.string x]) h7 (by rw [hrec]; rfl)
      rw [hrec] at hy
      have hr0 := rowN h3
      have hbusy : Inv C' F ⟨sl, bx, List.replicate n none⟩ a (W.putObj L (.loop { rec .ready none with state := .busy })) := h3.putObj _ h7 rfl geL
      refine ⟨fn, _, assign, body, hy, roundIn_of_wpIn hfn ?_⟩
      have ent := (h3.enterR hr0).put (some p) (Rep.str x)
      have ea : (Act.put { tmps := a.tmps, defers := [] } (some p) (.string x) : Act) = { tmps := (#[p].zip #[Value.string x]).foldl (fun t (p, v) => t.setIfInBounds p v) a.tmps, defers := [] } := by simp [Act.put]
      rw [ea] at ent
      refine wpIn_mono (hbk pre x suf bx hx h1 _ _ _ _ ent (some L)) fun e a1 w1 ⟨C1, st1, ⟨he, hbody⟩, hi1⟩ => ?_
      subst he
      obtain ⟨hi2, e1⟩ := hi1.putBoth (o := .loop { rec .ready none with state := .busy }) h7 rfl h5 hbusy.fixed
      refine ⟨_, run_beginRound e1 (by rw [hrec]), ?_⟩
      refine wpIn_mono (hbody _ _ _ _ hi2 (some L)) fun e a2 w2 ⟨C2, st2, hK, hi3⟩ => ?_
      -- what lies behind the round
      have lv : (∀ cs, some cs ∈ St.bk ⟨sl, bx, List.replicate n none⟩ st2 → ∀ g ∈ cs, g.closed0 = true) → ∀ jump : Option Code,
          (Instr.endRound L jump).run P w2 = .ok (.bool jump.isNone) (w2.putObj L (.loop (rec (if jump.isNone then .ready else .done) jump))) ∧
          Inv { box := C'.box, row := fun _ => none, ex := C2.ex } F ⟨sl, St.bk ⟨sl, bx, List.replicate n none⟩ st2, List.replicate n none⟩ a (w2.putObj L (.loop (rec (if jump.isNone then .ready else .done) jump))) ∧
          ¬ C2.ex L ∧ ¬ C2.ex w.heap.size ∧ (w2.putObj L (.loop (rec (if jump.isNone then .ready else .done) jump))).heap[L]? = some (.loop (rec (if jump.isNone then .ready else .done) jump)) ∧
          (w2.putObj L (.loop (rec (if jump.isNone then .ready else .done) jump))).heap[w.heap.size]? = some (.deferred (some [])) := fun hcl jump => by
        have hL2 : w2.heap[L]? = some (.loop { rec .ready none with state := .busy }) := (hi3.fr.block L (by show L < (W.putObj L _).heap.size; rw [World.putObj_size]; exact hlt) (fun ht => h5 ht.2)).trans (World.putObj_heap_same hlt)
        have hltD : w.heap.size < W.heap.size := (Array.getElem?_eq_some_iff.1 h8).1
        have hD2 : w2.heap[w.heap.size]? = some (.deferred (some [])) := (hi3.fr.block _ (by show w.heap.size < (W.putObj L _).heap.size; rw [World.putObj_size]; exact hltD) (fun ht => h6 ht.2)).trans ((World.putObj_heap_other (by omega)).trans h8)
        have hend := run_endRound (P := P) jump hL2
        have hl2 : L < w2.heap.size := (Array.getElem?_eq_some_iff.1 hL2).1
        have hinv := (hbusy.leaveR hr0 hi3 hcl n).putObj (.loop (rec (if jump.isNone then .ready else .done) jump)) hL2 rfl geL
        have nx : ∀ B, B < W.heap.size → ¬ C'.ex B → ¬ C2.ex B := fun B hB hn hx => by
          rcases hi3.exn B hx with hx | hx
          · exact hn hx
          · have hx' : (W.putObj L (.loop { rec .ready none with state := .busy })).heap.size ≤ B := hx
            rw [World.putObj_size] at hx'
            omega
        refine ⟨?_, hinv, nx L hlt h5, nx _ hltD h6, World.putObj_heap_same hl2, (World.putObj_heap_other (by omega)).trans hD2⟩
        rw [hrec] at hend ⊢
        exact hend
      cases e with
      | normal =>
        obtain ⟨⟨hI', hbb⟩, hcl⟩ := hK
        obtain ⟨q1, q2, q3, q4, q5, q6⟩ := lv hcl none
        exact ⟨_, _, q1, .inl ⟨rfl, _, _, hI', hbb.trans h2, q2, h4, q3, q4, q5, q6⟩⟩
      | ret =>
        obtain ⟨hI', hcl⟩ := hK
        obtain ⟨q1, q2, q3, q4, q5, q6⟩ := lv hcl (some .ret)
        exact ⟨_, _, q1, .inr ⟨rfl, _, _, _, hI', q2, q3, q4, q5, q6⟩⟩
      | exit id =>
        obtain ⟨hI', hcl⟩ := hK
        obtain ⟨q1, q2, q3, q4, q5, q6⟩ := lv hcl (some (.exit id))
        exact ⟨_, _, q1, .inr ⟨rfl, _, _, _, hI', q2, q3, q4, q5, q6⟩⟩
      | goto t =>
        obtain ⟨hI', hcl⟩ := hK
        obtain ⟨q1, q2, q3, q4, q5, q6⟩ := lv hcl (some (.goto t))
        exact ⟨_, _, q1, .inr ⟨rfl, _, _, _, hI', q2, q3, q4, q5, q6⟩⟩
      | panic ch => exact hK.elim
      | outgrown => exact hK.elim
    · rintro e W2 ⟨⟨v, rfl⟩, (⟨r, C', bx, h1, h2, h3, h4, h5, h6, h7, h8⟩ | ⟨c, C', bx, h1, h3, h5, h6, h7, h8⟩)⟩
      · refine ⟨none, _, by have := run_endLoop (P := P) h7 (by rw [hrec]; simp); rw [hrec] at this; exact this, ?_⟩
        exact hdone bx C' _ _ h1 ⟨h3.putObj _ h7 rfl geL, geD, h6, (World.putObj_heap_other (by omega)).trans h8⟩
      · refine ⟨some c, _, by have := run_endLoop (P := P) h7 (by rw [hrec]; simp); rw [hrec] at this; exact this, ?_⟩
        exact hstop c bx C' _ _ h1 ⟨h3.putObj _ h7 rfl geL, geD, h6, (World.putObj_heap_other (by omega)).trans h8⟩
end Go.Proofs.YtijohhdgecadnaaDoor.Av
namespace Go.Proofs.YtijohhdgecadnaaDoor.Av
open Go Go.RowKit
set_option linter.unusedVariables false
set_option linter.unusedSimpArgs false

theorem Inv.rebase {C : Cx} {F : Fd} {st : St} {a : Act} {w : World} (h : Inv C F st a w) (ds : List Deferred) :
    Inv C ⟨w, fun B => (F.t0 B ∨ F.w0.heap.size ≤ B) ∧ C.ex B, C.ex, F.fb, h.fixed, ds⟩ st { a with defers := ds } w :=
  ⟨rfl, h.sz, h.slots, h.mem, ⟨rfl, rfl, rfl, Nat.le_refl _, fun _ _ _ => rfl, fun _ vs _ fz h => ⟨vs, fz, h, rfl⟩⟩, fun _ h => h, fun _ h => .inl h, fun _ h => h.2,
    fun b B hb => .inl ⟨h.tb b B hb, h.mem.ltB hb⟩, fun k B s sz n hk => .inl ⟨h.tr k B s sz n hk, h.mem.ltR hk⟩, h.fb⟩
theorem Inv.unbase {C C1 : Cx} {F : Fd} {st st1 : St} {a a1 : Act} {w w1 : World} {hfx : Fixed w C.ex} {ds : List Deferred} (h : Inv C F st a w)
    (h1 : Inv C1 ⟨w, fun B => (F.t0 B ∨ F.w0.heap.size ≤ B) ∧ C.ex B, C.ex, F.fb, hfx, ds⟩ st1 a1 w1) : Inv C1 { F with dfs := ds } st1 a1 w1 := by
  refine ⟨h1.nd, h1.sz, h1.slots, h1.mem, ?_, fun B hB => h1.ex0 B (h.ex0 B hB), fun B hB => ?_, h.t0, fun b B hb => ?_, fun k B s sz n hk => ?_, h1.fb⟩
  · refine ⟨h1.fr.os.trans h.fr.os, h1.fr.tape.trans h.fr.tape, h1.fr.output.trans h.fr.output, Nat.le_trans h.fr.size h1.fr.size, fun B hB hn => ?_, fun B vs T fz hB => h.fr.ty2 h1.fr B vs T fz hB⟩
    have hB' : B < F.w0.heap.size := hB
    have e : w1.heap[B]? = w.heap[B]? := h1.fr.block B (Nat.lt_of_lt_of_le hB h.fr.size) (fun ht => by
      rcases ht.1 with ht | ht
      · exact hn ht
      · omega)
    exact e.trans (h.fr.block B hB hn)
  · rcases h1.exn B hB with hx | hx
    · exact h.exn B hx
    · exact .inr (Nat.le_trans h.fr.size hx)
  · rcases h1.tb b B hb with hx | hx
    · exact hx.1
    · exact .inr (Nat.le_trans h.fr.size hx)
  · rcases h1.tr k B s sz n hk with hx | hx
    · exact hx.1
    · exact .inr (Nat.le_trans h.fr.size hx)

/-- Code behind the loop, the mark among the deferred calls. -/
theorem HasD.marked {P : Program} {c : Code} {sl : List G} {bx : List (Option (List G))} {n : Nat} {K : Exit → St → Prop} (h : HasD P c ⟨sl, bx, List.replicate n none⟩ K) {C : Cx} {F : Fd} {a : Act} {w : World} {D : Nat} (hb : Behind F sl n a bx C D w) :
    c.wpIn (wideR none) 0 P (fun e a' w' => ∃ C' st', K e st' ∧ Inv C' { F with dfs := { target := .collected D, args := #[] } :: a.defers } st' a' w' ∧ w'.heap[D]? = some (.deferred (some []))) { a with defers := { target := .collected D, args := #[] } :: a.defers } w := by
  refine wpIn_mono (h C _ _ w (hb.inv.rebase ({ target := .collected D, args := #[] } :: a.defers)) none) fun e a' w' ⟨C', st', h1, h2⟩ => ⟨C', st', h1, hb.inv.unbase h2, ?_⟩
  exact (h2.fr.block D (Array.getElem?_eq_some_iff.1 hb.lies).1 (fun ht => hb.nex ht.2)).trans hb.lies

theorem seq_step {P : Program} {c y : Code} {F : Fd} {C : Cx} {st : St} {a : Act} {w : World} {K1 : Exit → St → Prop} {Q : Exit → Act → World → Prop} (h : awp P c st K1) (hi : Inv C F st a w)
    (hn : ∀ (C' : Cx) (st' : St) (a' : Act) (w' : World), K1 .normal st' → Inv C' F st' a' w' → y.wpIn (wideR none) 0 P Q a' w') (hx : ∀ (e : Exit) (st' : St), e ≠ .normal → ¬ K1 e st') : (Code.seq c y).wpIn (wideR none) 0 P Q a w := by
  refine wpIn_seq (wpIn_mono (awp_hasD c _ _ h C F _ w hi none) fun e a1 w1 ⟨C1, st1, h1, hi1⟩ => ?_)
  cases e with
  | normal => exact hn _ _ _ _ h1 hi1
  | _ => exact absurd h1 (hx _ _ (fun h => by cases h))

/-- What a function must come to at its end. -/
def ResK (P : Program) (fn : Func) (g : G) : Exit → St → Prop
  | .normal, st => resP P st fn.results.toList fun g' => dn st g' fun g' => g' = g
  | .ret, st => resP P st fn.results.toList fun g' => dn st g' fun g' => g' = g
  | _, _ => False

set_option maxHeartbeats 1000000 in
/-- A function's contract, out of its body, where that is: r0 .. r4; a range over a function; y. -/
theorem Fv.of_range {P : Program} {f : FuncId} {fn : Func} {r0 r1 r2 r3 r4 y assign body : Code} {kb : Nat} {gop : Operand} {p : Tmp} {args : List G} {g : G} (hf : P.funcs[f]? = some fn) (hb : fn.body = some (.seq r0 (.seq r1 (.seq r2 (.seq r3 (.seq (.seq r4 (.block kb (.rangeFunc gop #[p] assign body))) y)))))) (hh : hasBody P f = true) (hg : g.closedR = true) (hn : args.length ≤ fn.ntmps)
    {gf : FuncId} {ok : ByteArray → Prop} {xs : ByteArray → List ByteArray} (hit : IterS P gf ok xs) (eg : ∀ args w, (callFunc gf args).run P w = .ok (.enter gf args) w)
    (L Dl : List Nat) (sl : List G) (bx0 : List (Option (List G))) (n b : Nat) (s : ByteArray) (hok : ok s)
    (hgv : St.ev ⟨sl, bx0, List.replicate n none⟩ gop = .fn gf [.ptr b 0]) (hbb : bx0[b]? = some (some [.str s])) (hlb : Nat.blt p sl.length = true)
    (I : List ByteArray → List (Option (List G)) → Prop) (Ix : Code → List (Option (List G)) → Prop)
    (h0 : I [] bx0) (hset : ∀ pre bx r, I pre bx → I pre (bx.set b (some [.str r]))) (hb1 : ∀ pre bx, I pre bx → ∃ r, bx[b]? = some (some [.str r]))
    (hpre : awp P (.seq r0 (.seq r1 (.seq r2 (.seq r3 r4)))) (St.enter fn.ntmps args) fun e st => match e with | .normal => st.at L Dl = ⟨sl, bx0, List.replicate n none⟩ | _ => False)
    (hbk : ∀ pre x suf bx, xs s = pre ++ x :: suf → I pre bx → awp P assign (St.put (St.sh ⟨sl, bx, List.replicate n none⟩) (some p) (.str x)) fun e st1 => match e with | .normal => awp P body st1 (RoundK (fun bx' => I (pre ++ [x]) bx' ∧ bx'[b]? = bx[b]?) Ix ⟨sl, bx, List.replicate n none⟩) | _ => False)
    (hdone : ∀ bx, I (xs s) bx → awp P y ⟨sl, bx, List.replicate n none⟩ (ResK P fn g))
    (hstop : ∀ c bx, Ix c bx → awp P c ⟨sl, bx, List.replicate n none⟩ fun e st => match e with | .ret => ResK P fn g .ret st | _ => False) : Fv P f args g := by
  refine ⟨hh, fun C w t0 vs hl hr hM ht hb0 hr0 hfx => (callsIn_wide (n := 0)).1 (callsIn_of_wp_marks hf hb trivial ?_ rfl)⟩
  let F : Fd := ⟨w, fun _ => False, C.ex, fun _ => none, hfx, []⟩
  have hC : ∀ b, C.box b = none := fun b => by
    cases hx : C.box b with
    | none => rfl
    | some B => obtain ⟨cs, hcs⟩ := hM.domB b B hx; simp at hcs
  have hCr : ∀ b, C.row b = none := fun b => by
    cases hx : C.row b with
    | none => rfl
    | some B => obtain ⟨cs, hcs⟩ := hM.domR b B hx; simp at hcs
  have hsl : ∀ (i : Nat) g v, (args ++ List.replicate (fn.ntmps - args.length) G.junk)[i]? = some g → ((⟨vs⟩ : Array Value) ++ Array.replicate (fn.ntmps - (⟨vs⟩ : Array Value).size) undef)[i]? = some v → Rep C w g v := fun i g v hg hv => by
    by_cases hlt : i < args.length
    · rw [List.getElem?_append_left hlt] at hg
      rw [Array.getElem?_append_left (by simpa [hl] using hlt)] at hv
      exact hr i g v hg (by simpa using hv)
    · rw [List.getElem?_append_right (by omega)] at hg
      rw [List.getElem?_replicate] at hg
      split at hg
      · cases hg; exact .junk _
      · cases hg
  have hI : Inv C F (St.enter fn.ntmps args) { tmps := (⟨vs⟩ : Array Value) ++ Array.replicate (fn.ntmps - (⟨vs⟩ : Array Value).size) undef, defers := [] } w := by
    refine ⟨rfl, by simp [St.enter, hl], hsl, ⟨fun b cs hb => ?_, fun k xs hk => ?_, fun b B hB => (by rw [hC] at hB; cases hB), fun k r hr => (by rw [hCr] at hr; cases hr), hM.bb, hM.rr, hM.br, hM.lt⟩,
      ⟨rfl, rfl, rfl, Nat.le_refl _, fun _ _ _ => rfl, fun _ vs _ fz h => ⟨vs, fz, h, rfl⟩⟩, fun _ h => h, fun _ h => .inl h, fun _ h => h.elim, fun b B hB => (by rw [hC] at hB; cases hB), fun k B s sz n hk => (by rw [hCr] at hk; cases hk), fun b B hb => (by cases hb)⟩
    · simp [St.enter, List.getElem?_replicate] at hb
    · simp [St.enter, List.getElem?_replicate] at hk
  have fin : ∀ (C' : Cx) (F' : Fd) (st' : St) (a' : Act) (w' : World), F'.w0 = F.w0 → F'.t0 = F.t0 → F'.ex0 = F.ex0 → Inv C' F' st' a' w' → resP P st' fn.results.toList (fun g' => dn st' g' fun g' => g' = g) → ∃ v, (results fn a'.tmps).run P w' = .ok v w' ∧ ∃ v_1 C'_1 g_1 bs' rs', (Ending.returned v) = .returned v_1 ∧ (g_1 = g ∧ bs' = [] ∧ rs' = []) ∧ Rep C'_1 w' g_1 v_1 ∧ Mem C'_1 w' bs' rs' ∧ Ends C t0 w C'_1 w' := fun C' F' st' a' w' e1 e2 e3 h2 hres => by
    obtain ⟨w0', t0', ex0', fb', fix', dfs'⟩ := F'
    cases e1; cases e2; cases e3
    obtain ⟨g0, v, k1, k2, k3⟩ := resP_sound hres h2
    obtain ⟨g', rfl, k4⟩ := dn_sound (Co := Cx.out C.ex) h2 (fun B _ hn hx => hn (h2.ex0 B hx)) (fun k B s sz n hk hx => by
      have h3 := (h2.tr k B s sz n hk).resolve_left (fun h => h)
      have h4 := hM.lt B hx
      exact absurd h3 (by show ¬ w.heap.size ≤ B; omega)) k1 k3
    refine ⟨v, k2, v, Cx.out C.ex, g', [], [], rfl, ⟨rfl, rfl, rfl⟩, k4 hg, mem0 w' C.ex (fun B hB => Nat.lt_of_lt_of_le (hM.lt B hB) h2.fr.size), ?_⟩
    exact ⟨fun b B hB => (by rw [hC] at hB; cases hB), ⟨h2.fr.os, h2.fr.tape, h2.fr.output, h2.fr.size, fun B hB _ => h2.fr.block B hB (fun h => h), h2.fr.ty⟩, fun _ h => h, fun _ h => .inl h, fun _ _ h => (by cases h), fun _ _ _ _ _ h => (by cases h)⟩
  have post : ∀ (C' : Cx) (ds : List Deferred) (e : Exit) (st' : St) (a' : Act) (w' : World) (D : Nat), F.w0.heap.size ≤ D → ds = [{ target := .collected D, args := #[] }] → Inv C' { F with dfs := ds } st' a' w' → w'.heap[D]? = some (.deferred (some [])) → ResK P fn g e st' →
      bodyPostM (wideR none) 0 P fn (fun e w' => ∃ v C' g' bs' rs', e = .returned v ∧ (g' = g ∧ bs' = [] ∧ rs' = []) ∧ Rep C' w' g' v ∧ Mem C' w' bs' rs' ∧ Ends C t0 w C' w') e a' w' := fun C' ds e st' a' w' D hD hds h2 hl hk => by
    have hnd : a'.defers = [{ target := .collected D, args := #[] }] := h2.nd.trans hds
    have h3 := h2.putObj (.deferred none) hl rfl hD
    have go : resP P st' fn.results.toList (fun g' => dn st' g' fun g' => g' = g) → LeavesInM (wideR none) 0 P fn a'.tmps (fun e w' => ∃ v C' g' bs' rs', e = .returned v ∧ (g' = g ∧ bs' = [] ∧ rs' = []) ∧ Rep C' w' g' v ∧ Mem C' w' bs' rs' ∧ Ends C t0 w C' w') a'.defers .returning w' := fun hres => by
      rw [hnd]
      refine ⟨by simp, .inl ⟨_, _, rfl, run_takeDeferred hl, ?_⟩⟩
      exact fin C' { F with dfs := ds } st' a' _ rfl rfl rfl h3 hres
    cases e with
    | normal => exact go hk
    | ret => exact go hk
    | _ => exact hk.elim
  refine seq_step hpre hI (fun C1 st1 a1 w1 h1 hi1 => ?_) (fun e st' hne h => by cases e <;> first | exact hne rfl | exact h)
  refine seq_step h1 hi1 (fun C1 st1 a1 w1 h1 hi1 => ?_) (fun e st' hne h => by cases e <;> first | exact hne rfl | exact h)
  refine seq_step h1 hi1 (fun C1 st1 a1 w1 h1 hi1 => ?_) (fun e st' hne h => by cases e <;> first | exact hne rfl | exact h)
  refine seq_step h1 hi1 (fun C1 st1 a1 w1 h1 hi1 => ?_) (fun e st' hne h => by cases e <;> first | exact hne rfl | exact h)
  refine wpIn_seq (seq_step h1 hi1 (fun C1 st1 a1 w1 h1 hi1 => ?_) (fun e st' hne h => by cases e <;> first | exact hne rfl | exact h))
  obtain ⟨C2, hi2⟩ := hi1.at L Dl
  rw [h1] at hi2
  have nd1 : a1.defers = [] := hi1.nd
  refine wpIn_block (range_str hit eg hi2 hok hgv hbb hlb I Ix h0 hset hb1 (fun pre x suf bx hx hi => ?_) (fun bx C' D w' hi hbh => ?_) (fun c bx C' D w' hi hbh => ?_))
  · refine (awp_hasD _ _ _ (hbk pre x suf bx hx hi)).mono fun e st1 he => ?_
    cases e with
    | normal => exact ⟨rfl, awp_hasD _ _ _ he⟩
    | _ => exact he.elim
  · refine wpIn_mono ((awp_hasD _ _ _ (hdone bx hi)).marked hbh) fun e a' w'' ⟨C3, st3, q1, q2, q3⟩ => ?_
    exact post C3 _ e st3 a' w'' D hbh.ge (by rw [nd1]) q2 q3 q1
  · refine wpIn_mono ((awp_hasD _ _ _ (hstop c bx hi)).marked hbh) fun e a' w'' ⟨C3, st3, q1, q2, q3⟩ => ?_
    cases e with
    | ret => exact post C3 _ .ret st3 a' w'' D hbh.ge (by rw [nd1]) q2 q3 q1
    | _ => exact q1.elim
end Go.Proofs.YtijohhdgecadnaaDoor.Av
namespace Go.Proofs.YtijohhdgecadnaaDoor.Av
open Go Go.RowKit
set_option linter.unusedVariables false
set_option linter.unusedSimpArgs false

def ySt (N l : Nat) (r : ByteArray) : St := St.ofP N 1 0 [(0, .lit (.func (.yield l) #[] #[])), (1, .ptr (N + 8) 0)] [(N + 8, [.str r])] []
def ySt1 (N l tl : Nat) (x r : ByteArray) : St := St.ofP N 1 0 [(0, .lit (.func (.yield l) #[] #[])), (1, .ptr (N + 8) 0), (tl, .str x)] [(N + 8, [.str r])] []
def ySt2 (N l tc : Nat) (b : Bool) (r : ByteArray) : St := St.ofP N 1 0 [(0, .lit (.func (.yield l) #[] #[])), (1, .ptr (N + 8) 0), (tc, .bool b)] [(N + 8, [.str r])] []

theorem mkS_get (l : List (Nat × G)) : ∀ (n i j : Nat), (mkS n i l)[j]? = if j < n then some (match l.find? (fun p => Nat.beq p.1 (i + j)) with | some p => p.2 | none => .junk) else none
  | 0, i, j => by simp [mkS]
  | n + 1, i, 0 => by simp [mkS]; cases List.find? (fun p => p.fst.beq i) l <;> rfl
  | n + 1, i, j + 1 => by
    rw [mkS, List.getElem?_cons_succ, mkS_get l n (i + 1) j]
    simp only [Nat.add_lt_add_iff_right, show i + 1 + j = i + (j + 1) from by omega]
theorem mkB_get (l : List (Nat × List G)) : ∀ (n i j : Nat), (mkB n i l)[j]? = if j < n then some (match l.find? (fun p => Nat.beq p.1 (i + j)) with | some p => some p.2 | none => none) else none
  | 0, i, j => by simp [mkB]
  | n + 1, i, 0 => by simp [mkB]; cases List.find? (fun p => p.fst.beq i) l <;> rfl
  | n + 1, i, j + 1 => by
    rw [mkB, List.getElem?_cons_succ, mkB_get l n (i + 1) j]
    simp only [Nat.add_lt_add_iff_right, show i + 1 + j = i + (j + 1) from by omega]
theorem mkR_none : ∀ (n i j : Nat) o, (mkR n i [])[j]? = some o → o = none
  | 0, i, j, o, h => by simp [mkR] at h
  | n + 1, i, 0, o, h => by simp [mkR] at h; exact h.symm
  | n + 1, i, j + 1, o, h => by rw [mkR, List.getElem?_cons_succ] at h; exact mkR_none n (i + 1) j o h
theorem mkS_len (l : List (Nat × G)) : ∀ (n i : Nat), (mkS n i l).length = n
  | 0, i => rfl
  | n + 1, i => by simp [mkS, mkS_len l n (i + 1)]

/-- The iterator's frame, anew. -/
def yCx (N Bs : Nat) : Cx := { box := fun b => if b = N + 8 then some Bs else none, row := fun _ => none, ex := fun B => B = Bs }
def yFd (N Bs : Nat) (w : World) (hfx : Fixed w (fun B => B = Bs)) : Fd := ⟨w, fun B => B = Bs, fun B => B = Bs, fun b => if b = N + 8 then some Bs else none, hfx, []⟩
theorem yInv {N Bs : Nat} {w : World} (hfx : Fixed w (fun B => B = Bs)) {a : Act} (hd : a.defers = []) (hsz : a.tmps.size = N) {r : ByteArray} {T : TypeId} (hT : w.heap[Bs]? = some (.cells ⟨[.string r]⟩ T (0, 0)))
    {sl : List (Nat × G)} (hs : ∀ p ∈ sl, ∀ v, a.tmps[p.1]? = some v → Rep (yCx N Bs) w p.2 v) :
    Inv (yCx N Bs) (yFd N Bs w hfx) (St.ofP N 1 0 sl [(N + 8, [.str r])] []) a w := by
  have hlt : Bs < w.heap.size := (Array.getElem?_eq_some_iff.1 hT).1
  refine ⟨hd, by rw [hsz]; exact (mkS_len _ _ _).symm, fun i g v hg hv => ?_, ⟨fun b cs hb => ?_, fun k xs hx => ?_, fun b B hB => ?_, fun k r hr => (by cases hr), fun b b' B h1 h2 => ?_, fun k k' B s sz n s' sz' n' e => (by cases e), fun b k B s sz n _ e => (by cases e), fun B hB => (by cases hB; exact hlt)⟩,
    ⟨rfl, rfl, rfl, Nat.le_refl _, fun _ _ _ => rfl, fun _ vs _ fz h => ⟨vs, fz, h, rfl⟩⟩, fun _ h => h, fun _ h => .inl h, fun _ h => h, fun b B hb => ?_, fun k B s sz n hk => (by cases hk), fun b B hb => ⟨hb, ?_⟩⟩
  · have hg' : (mkS N 0 sl)[i]? = some g := hg
    rw [mkS_get] at hg'
    split at hg'
    · cases hg'
      split
      · rename_i p hp
        have h1 := List.mem_of_find?_eq_some hp
        have h2 := List.find?_some hp
        have e : p.1 = i := by have := Nat.eq_of_beq_eq_true h2; omega
        exact hs p h1 v (by rw [e]; exact hv)
      · exact .junk _
    · cases hg'
  · have hb' : (mkB (N + 8 + 1) 0 [(N + 8, [.str r])])[b]? = some (some cs) := hb
    rw [mkB_get] at hb'
    split at hb'
    · rename_i hlt'
      simp only [List.find?_cons, List.find?_nil, Nat.zero_add] at hb'
      cases hq : Nat.beq (N + 8) b with
      | false => rw [hq] at hb'; cases hb'
      | true =>
        rw [hq] at hb'
        have e : N + 8 = b := Nat.eq_of_beq_eq_true hq
        obtain rfl : [G.str r] = cs := by simpa using hb'
        refine ⟨Bs, [.string r], T, by show (if b = N + 8 then _ else _) = _; rw [if_pos e.symm], rfl, hT, rfl, fun v hv => (by simp at hv; subst hv; rfl), fun i g v hg hv => ?_⟩
        match i with
        | 0 => simp at hg hv; subst hg; subst hv; exact ⟨rfl, .str _⟩
        | i + 1 => simp at hg
    · cases hb'
  · have := mkR_none _ _ _ _ hx
    cases this
  · have hB' : (if b = N + 8 then some Bs else none) = some B := hB
    split at hB'
    · rename_i e
      refine ⟨[.str r], ?_⟩
      show (mkB (N + 8 + 1) 0 [(N + 8, [.str r])])[b]? = _
      rw [mkB_get, if_pos (by omega)]
      simp only [List.find?_cons, Nat.zero_add, show Nat.beq (N + 8) b = true from by rw [e]; exact Nat.beq_refl _]
    · cases hB'
  · have h1' : (if b = N + 8 then some Bs else none) = some B := h1
    have h2' : (if b' = N + 8 then some Bs else none) = some B := h2
    split at h1' <;> split at h2' <;> simp_all
  · have hb' : (if b = N + 8 then some Bs else none) = some B := hb
    split at hb'
    · cases hb'; exact .inl rfl
    · cases hb'
  · have hb' : (if b = N + 8 then some Bs else none) = some B := hb
    split at hb'
    · rename_i e; show (mkS N 0 sl).length + 8 ≤ b; rw [mkS_len]; omega
    · cases hb'

theorem in_move {F : Fence} {n : Nat} {P : Program} {ops : Array Oper} {Q : Exit → Act → World → Prop} {rest : List Oper} {d : Tmp} {x : Operand} {o : Oper} (ho : o.op = .move x) (hd : o.dst = some d) (hg : o.guard = none) {a : Act} {w : World}
    (h : wpListIn F n P ops Q rest (a.put (some d) (a.eval x)) w) : wpListIn F n P ops Q (o :: rest) a w := by
  refine wpListIn_plain hg fun K hK => ⟨fun f hf => ?_, ?_⟩
  · unfold Oper.about at hf; rw [ho] at hf; cases hf
  · rw [Oper.semAt_eq _ _ _ (fun c hc => by rw [ho] at hc; cases hc)]
    have e : (execOp a.eval o).run P w = .ok (.value (a.eval x)) w := by unfold execOp; rw [ho]; rfl
    rw [e, Oper.uponIn_value, hd]
    exact hK _ _ h

/-- What an iterator hands out: A: is there more (else out by k0); R1, B: the next text into tl, the rest into the variable; then yield is asked, and its answer turned round. -/
theorem IterS.of_awp {P : Program} {gf : FuncId} {fn : Func} {A R1 B2 : Code} {k0 k1 id6 N ta tb tc td tl : Nat} {tt : TypeId} {o1 o2 o3 o4 : Oper} {ats : Array TypeId} {ok : ByteArray → Prop} {xs : ByteArray → List ByteArray}
    (hf : P.funcs[gf]? = some fn) (hb : fn.body = some (.block k0 (.loop (.seq A (.block k1 (.seq R1 (.seq B2 (.seq (.region id6 #[o1, o2, o3, o4] false) (.cond (.tmp td) .ret .skip))))))))) (hres : fn.results = #[]) (hn : fn.ntmps = N)
    (e1 : o1.op = .move (.tmp 0)) (e2 : o2.op = .move (.tmp tl)) (e4 : o4.op = .unOp .not tt (.tmp tc)) (d4 : o4.dst = some td) (g4 : o4.guard = none) (e3 : o3.op = .call { callee := .value (.tmp ta), args := #[.tmp tb], argTypes := ats })
    (d1 : o1.dst = some ta) (d2 : o2.dst = some tb) (d3 : o3.dst = some tc) (g1 : o1.guard = none) (g2 : o2.guard = none) (g3 : o3.guard = none)
    (hix : 2 ≤ tl ∧ tl < ta ∧ ta < tb ∧ tb < tc ∧ tc < td ∧ td < N) (hk : (k0 == k1) = false)
    (h0 : ∀ s, s.size = 0 → xs s = [])
    (hend : ∀ l s, s.size = 0 → awp P A (ySt N l s) fun e st => match e with | .exit k => k = k0 ∧ st.boxes[N + 8]? = some (some [.str s]) | _ => False)
    (hround : ∀ r, r.size ≠ 0 → ok r → ∃ x rest, xs r = x :: xs rest ∧ ok rest ∧ ∀ l, awp P A (ySt N l r) fun e st => match e with
      | .normal => awp P R1 st fun e st => match e with
        | .normal => awp P B2 st fun e st => match e with
          | .normal => st.at [0, 1, tl] [] = ySt1 N l tl x rest
          | _ => False
        | _ => False
      | _ => False) : IterS P gf ok xs := by
  intro l Bs s J Jx W hok hcell hfx hst hgr hyield hJ0
  refine callsIn_of_wp hf hb trivial ?_ rfl
  -- the variable has turned, and blocks have been laid
  have adv : ∀ (pre : List ByteArray) (r rest : ByteArray) (w : World) (hF : Fixed w (fun B => B = Bs)) (C' : Cx) (st' : St) (a' : Act) (w' : World), J pre r w → Inv C' (yFd N Bs w hF) st' a' w' → st'.boxes[N + 8]? = some (some [.str rest]) → J pre rest w' := fun pre r rest w hF C' st' a' w' hJ h hbx => by
    obtain ⟨T, hT⟩ := hcell pre r w hJ
    have hlt : Bs < w.heap.size := (Array.getElem?_eq_some_iff.1 hT).1
    have hCb : C'.box (N + 8) = some Bs := (h.fb (N + 8) Bs (by show (if N + 8 = N + 8 then _ else _) = _; rw [if_pos rfl])).1
    obtain ⟨B', vs, T', k1, k2, k3, k4, k5, k6⟩ := h.mem.box _ _ hbx
    rw [hCb] at k1; cases k1
    obtain ⟨v, rfl⟩ : ∃ v, vs = [v] := by
      match vs, k4 with
      | [v], _ => exact ⟨v, rfl⟩
    have hv := (k6 0 _ v rfl rfl).2
    cases hv
    obtain ⟨vs', fz', q1, q2⟩ := h.fr.ty Bs _ T _ hT
    have hTT : T' = T := by rw [k3] at q1; cases q1; rfl
    subst hTT
    have hJ1 : J pre rest (w.putObj Bs (.cells ⟨[.string rest]⟩ T' (0, 0))) := hst pre r rest w _ T' hJ hT ⟨rfl, rfl, rfl, by simp, World.putObj_heap_same hlt, fun k hk => World.putObj_heap_other hk, _, _, hT, rfl⟩
    have hbl : ∀ B, B < (w.putObj Bs (.cells ⟨[.string rest]⟩ T' (0, 0))).heap.size → w'.heap[B]? = (w.putObj Bs (.cells ⟨[.string rest]⟩ T' (0, 0))).heap[B]? := fun B hB => by
      rw [World.putObj_size] at hB
      by_cases e : B = Bs
      · subst e; rw [World.putObj_heap_same hlt]; exact k3
      · rw [World.putObj_heap_other e]; exact h.fr.block B hB e
    exact hgr pre rest _ w' hJ1 ⟨by rw [World.putObj_size]; exact h.fr.size, fun B vs T fz hB => (hbl B (Array.getElem?_eq_some_iff.1 hB).1).trans hB, fun B es c hB => (hbl B (Array.getElem?_eq_some_iff.1 hB).1).trans hB⟩ hbl h.fr.os h.fr.tape h.fr.output
  -- the slots that are known
  have ext : ∀ (C' : Cx) (w0 : World) (hF : Fixed w0 (fun B => B = Bs)) (sl : List (Nat × G)) (r : ByteArray) (a' : Act) (w' : World), Inv C' (yFd N Bs w0 hF) (St.ofP N 1 0 ((0, .lit (.func (.yield l) #[] #[])) :: (1, .ptr (N + 8) 0) :: sl) [(N + 8, [.str r])] []) a' w' →
      a'.tmps.size = N ∧ a'.tmps[0]? = some (.func (.yield l) #[] #[]) ∧ a'.tmps[1]? = some (.pointer (some ⟨Bs, 0, none⟩)) ∧ a'.defers = [] ∧ (St.ofP N 1 0 ((0, .lit (.func (.yield l) #[] #[])) :: (1, .ptr (N + 8) 0) :: sl) [(N + 8, [.str r])] []).boxes[N + 8]? = some (some [.str r]) := fun C' w0 hF sl r a' w' h => by
    have hs3 : a'.tmps.size = N := by rw [h.sz]; exact mkS_len _ _ _
    have hN : ∀ j, j < N → ∃ v, a'.tmps[j]? = some v := fun j hj => ⟨_, Array.getElem?_eq_getElem (by rw [hs3]; exact hj)⟩
    refine ⟨hs3, ?_, ?_, h.nd, ?_⟩
    · obtain ⟨v, hv⟩ := hN 0 (by omega)
      have := h.slots 0 (.lit (.func (.yield l) #[] #[])) v (by
        show (mkS N 0 _)[0]? = _
        rw [mkS_get, if_pos (by omega)]; simp only [List.find?_cons, Nat.zero_add, Nat.beq_refl]) hv
      cases this; exact hv
    · obtain ⟨v, hv⟩ := hN 1 (by omega)
      have := h.slots 1 (.ptr (N + 8) 0) v (by
        show (mkS N 0 _)[1]? = _
        rw [mkS_get, if_pos (by omega)]; simp only [List.find?_cons, Nat.zero_add]; first | rfl | skip) hv
      have hCb : C'.box (N + 8) = some Bs := (h.fb (N + 8) Bs (by show (if N + 8 = N + 8 then _ else _) = _; rw [if_pos rfl])).1
      cases this with
      | ptr _ _ B hB => rw [hCb] at hB; cases hB; exact hv
    · show (mkB (N + 8 + 1) 0 [(N + 8, [.str r])])[N + 8]? = _
      rw [mkB_get, if_pos (by omega)]
      simp only [List.find?_cons, Nat.zero_add, Nat.beq_refl]
  obtain ⟨R, hR⟩ : ∃ R : Ending → World → Prop, R = fun e W' => (∃ v, e = .returned v) ∧ ((∃ r, J (xs s) r W') ∨ Jx W') := ⟨_, rfl⟩
  rw [← hR]
  generalize hcc : (Code.seq A (.block k1 (.seq R1 (.seq B2 (.seq (.region id6 #[o1, o2, o3, o4] false) (.cond (.tmp td) .ret .skip)))))) = cc
  have key : ∀ (m : Nat) (pre : List ByteArray) (r : ByteArray) (a : Act) (w : World), (xs r).length < m → ok r → J pre r w → xs s = pre ++ xs r → a.tmps.size = N → a.tmps[0]? = some (.func (.yield l) #[] #[]) → a.tmps[1]? = some (.pointer (some ⟨Bs, 0, none⟩)) → a.defers = [] →
      Code.roundsIn (wideR none) 0 P cc (Exit.inBlock k0 (bodyPost P fn R)) m a w := by
    intro m
    induction m with
    | zero => intro pre r a w h; omega
    | succ m ih =>
      intro pre r a w hm hok hJ hx hsz ht0 ht1 hd
      rw [roundsIn_succ, ← hcc]
      obtain ⟨T, hT⟩ := hcell pre r w hJ
      have hF := hfx pre r w hJ
      have hi : Inv (yCx N Bs) (yFd N Bs w hF) (ySt N l r) a w := yInv hF hd hsz hT (fun p hp v hv => by
        simp only [List.mem_cons, List.not_mem_nil, or_false] at hp
        rcases hp with rfl | rfl
        · rw [ht0] at hv; cases hv; exact .lit _ rfl
        · rw [ht1] at hv; cases hv
          exact .ptr _ _ Bs (by show (if N + 8 = N + 8 then _ else _) = _; rw [if_pos rfl]))
      by_cases hr0 : r.size = 0
      · refine wpIn_seq (wpIn_mono (awp_hasD _ _ _ (hend l r hr0) _ _ _ _ hi none) fun e a' w' ⟨C', st', he, hi'⟩ => ?_)
        cases e with
        | exit k =>
          obtain ⟨rfl, hbx⟩ := he
          show Exit.inBlock k (bodyPost P fn R) (.exit k) a' w'
          simp only [Exit.inBlock, if_true]
          refine ⟨hi'.nd, _, results_none hres _ _ _, ?_⟩
          rw [hR]
          refine ⟨⟨_, rfl⟩, .inl ⟨r, ?_⟩⟩
          rw [hx, h0 r hr0, List.append_nil]
          exact adv pre r r w hF _ _ _ _ hJ hi' hbx
        | _ => exact he.elim
      · obtain ⟨x, rest, hxr, hok', hrd⟩ := hround r hr0 hok
        refine wpIn_seq (wpIn_mono (awp_hasD _ _ _ (hrd l) _ _ _ _ hi none) fun e a1 w1 ⟨C1, st1, he, hi1⟩ => ?_)
        cases e with
        | normal =>
          refine wpIn_block (wpIn_seq (wpIn_mono (awp_hasD _ _ _ he _ _ _ _ hi1 none) fun e a2 w2 ⟨C2, st2, he, hi2⟩ => ?_))
          cases e with
          | normal =>
            refine wpIn_seq (wpIn_mono (awp_hasD _ _ _ he _ _ _ _ hi2 none) fun e a3 w3 ⟨C3, st3, he, hi3⟩ => ?_)
            cases e with
            | normal =>
              obtain ⟨C4, hi4⟩ := hi3.at [0, 1, tl] []
              rw [he] at hi4
              obtain ⟨hs3, t0, t1, hd3, hbx⟩ := ext _ _ _ _ _ _ _ hi4
              have hJ1 : J pre rest w3 := adv pre r rest w hF _ _ _ _ hJ hi4 hbx
              have t3 : a3.tmps[tl]? = some (.string x) := by
                have hv : a3.tmps[tl]? = some a3.tmps[tl] := Array.getElem?_eq_getElem (by omega)
                have := hi4.slots tl (.str x) _ (by
                  show (mkS N 0 _)[tl]? = _
                  rw [mkS_get, if_pos (by omega)]
                  have b0 : Nat.beq 0 tl = false := by cases hq : Nat.beq 0 tl with | false => rfl | true => (have := Nat.eq_of_beq_eq_true hq; omega)
                  have b1 : Nat.beq 1 tl = false := by cases hq : Nat.beq 1 tl with | false => rfl | true => (have := Nat.eq_of_beq_eq_true hq; omega)
                  simp only [List.find?_cons, Nat.zero_add, b0, b1, Nat.beq_refl]) hv
                rw [hv, this.str_inv]
              refine wpIn_seq (wpIn_region_list (in_move e1 d1 g1 (in_move e2 d2 g2 ?_)))
              have v0 : a3.eval (.tmp 0) = .func (.yield l) #[] #[] := by show a3.tmps.getD 0 undef = _; rw [Array.getD_eq_getD_getElem?, t0]; rfl
              have v3 : ∀ v, (a3.put (some ta) v).eval (.tmp tl) = .string x := fun v => by
                show (a3.tmps.setIfInBounds ta v).getD tl undef = _
                rw [Array.getD_eq_getD_getElem?, Array.getElem?_setIfInBounds_ne (by omega), t3]; rfl
              rw [v0, v3]
              obtain ⟨a5, ha5⟩ : ∃ a5 : Act, a5 = (a3.put (some ta) (.func (.yield l) #[] #[])).put (some tb) (.string x) := ⟨_, rfl⟩
              rw [← ha5]
              have p0 : a5.tmps[0]? = some (.func (.yield l) #[] #[]) := by
                rw [ha5]; show ((a3.tmps.setIfInBounds ta _).setIfInBounds tb _)[0]? = _
                rw [Array.getElem?_setIfInBounds_ne (by omega), Array.getElem?_setIfInBounds_ne (by omega)]; exact t0
              have p1 : a5.tmps[1]? = some (.pointer (some ⟨Bs, 0, none⟩)) := by
                rw [ha5]; show ((a3.tmps.setIfInBounds ta _).setIfInBounds tb _)[1]? = _
                rw [Array.getElem?_setIfInBounds_ne (by omega), Array.getElem?_setIfInBounds_ne (by omega)]; exact t1
              have pa : a5.eval (.tmp ta) = .func (.yield l) #[] #[] := by
                rw [ha5]; show ((a3.tmps.setIfInBounds ta _).setIfInBounds tb _).getD ta undef = _
                rw [Array.getD_eq_getD_getElem?, Array.getElem?_setIfInBounds_ne (by omega), Array.getElem?_setIfInBounds_self_of_lt (by omega)]; rfl
              have pb : a5.eval (.tmp tb) = .string x := by
                rw [ha5]; show ((a3.tmps.setIfInBounds ta _).setIfInBounds tb _).getD tb undef = _
                rw [Array.getD_eq_getD_getElem?, Array.getElem?_setIfInBounds_self_of_lt (by simp; omega)]; rfl
              have ps : a5.tmps.size = N := by rw [ha5]; show ((a3.tmps.setIfInBounds ta _).setIfInBounds tb _).size = _; simp [hs3]
              have pd : a5.defers = [] := by rw [ha5]; exact hd3
              clear ha5
              obtain ⟨fn', tmps', assign', body', hy, hR'⟩ := hyield pre x (xs rest) rest w3 hJ1 (by rw [hx, hxr])
              refine wpListIn_plain g3 fun K hK => ⟨fun f _ => trivial, ?_⟩
              rw [Oper.semAt_eq _ _ _ (fun c hc => by rw [e3] at hc; cases hc)]
              have erun : (execOp a5.eval o3).run P w3 = .ok (.round l fn' tmps' assign' body') w3 := by
                have em : #[Operand.tmp tb].map a5.eval = #[.string x] := by simp [pb]
                have ed : (resolve a5.eval { callee := .value (.tmp ta), args := #[.tmp tb], argTypes := ats } o3.type).run P w3 = .ok { target := .fn (.yield l) #[], args := #[.string x] } w3 := by
                  simp only [resolve, em, pa]; simp [Deferred.ofValue]
                unfold execOp
                rw [e3]
                simp only [Sem.run_bind, ed, Result.andThen_ok, invoke]
                exact hy
              rw [erun, Oper.uponIn_round]
              refine ⟨fun h => (by cases h), hR'.mono ?_⟩
              have tail : ∀ (b : Bool) (W' : World), (∀ a7 : Act, a7.tmps.size = N → a7.tmps[0]? = some (.func (.yield l) #[] #[]) → a7.tmps[1]? = some (.pointer (some ⟨Bs, 0, none⟩)) → a7.defers = [] → bif b then Code.roundsIn (wideR none) 0 P cc (Exit.inBlock k0 (bodyPost P fn R)) m a7 W' else R (.returned (.tuple #[])) W') →
                  K (a5.put o3.dst (.bool b)) W' := fun b W' hgo => by
                refine hK _ _ ?_
                rw [d3]
                have pc : (a5.put (some tc) (.bool b)).eval (.tmp tc) = .bool b := by
                  show (a5.tmps.setIfInBounds tc _).getD tc undef = _
                  rw [Array.getD_eq_getD_getElem?, Array.getElem?_setIfInBounds_self_of_lt (by omega)]; rfl
                refine wpListIn_plain g4 fun K' hK' => ⟨fun f _ => trivial, ?_⟩
                rw [Oper.semAt_eq _ _ _ (fun c hc => by rw [e4] at hc; cases hc)]
                have erun4 : (execOp (a5.put (some tc) (.bool b)).eval o4).run P W' = .ok (.value (.bool (!b))) W' := by
                  unfold execOp
                  rw [e4]
                  simp only [Sem.run_bind, pc, Op.unary, Sem.run_pure, Result.andThen_ok]
                rw [erun4, Oper.uponIn_value, d4]
                refine hK' _ _ (wpListIn_nil ?_)
                have pq : ((a5.put (some tc) (.bool b)).put (some td) (.bool (!b))).eval (.tmp td) = .bool (!b) := by
                  show ((a5.tmps.setIfInBounds tc _).setIfInBounds td _).getD td undef = _
                  rw [Array.getD_eq_getD_getElem?, Array.getElem?_setIfInBounds_self_of_lt (by simp; omega)]; rfl
                have h7 := hgo ((a5.put (some tc) (.bool b)).put (some td) (.bool (!b))) (by show ((a5.tmps.setIfInBounds tc _).setIfInBounds td _).size = N; simp [ps])
                  (by show ((a5.tmps.setIfInBounds tc _).setIfInBounds td _)[0]? = _; rw [Array.getElem?_setIfInBounds_ne (by omega), Array.getElem?_setIfInBounds_ne (by omega)]; exact p0)
                  (by show ((a5.tmps.setIfInBounds tc _).setIfInBounds td _)[1]? = _; rw [Array.getElem?_setIfInBounds_ne (by omega), Array.getElem?_setIfInBounds_ne (by omega)]; exact p1)
                  pd
                cases b with
                | true =>
                  refine wpIn_cond_false pq (wpIn_skip ?_)
                  rw [← hcc] at h7
                  exact h7
                | false =>
                  refine wpIn_cond_true pq (wpIn_ret ?_)
                  exact ⟨pd, _, results_none hres _ _ _, h7⟩
              rintro e W' (⟨rfl, hJ'⟩ | ⟨rfl, hJx⟩)
              · exact tail true W' fun a7 q1 q2 q3 q4 => ih (pre ++ [x]) rest a7 W' (by rw [hxr] at hm; simp at hm; omega) hok' hJ' (by rw [hx, hxr]; simp) q1 q2 q3 q4
              · refine tail false W' fun a7 _ _ _ _ => ?_
                show R _ W'
                rw [hR]
                exact ⟨⟨_, rfl⟩, .inr hJx⟩
            | _ => exact he.elim
          | _ => exact he.elim
        | _ => exact he.elim
  refine wpIn_block (wpIn_loop_rounds ((xs s).length + 1) (key _ [] s _ W (Nat.lt_succ_self _) hok hJ0 rfl ?_ ?_ ?_ rfl))
  · rw [hn]; simp; omega
  · rw [Array.getElem?_append_left (by simp)]; rfl
  · rw [Array.getElem?_append_left (by simp)]; rfl
end Go.Proofs.YtijohhdgecadnaaDoor.Av
namespace Go.Proofs.YtijohhdgecadnaaDoor.Sp
open Go Go.Proofs.YtijohhdgecadnaaDoor.Av
set_option linter.unusedVariables false

structure Trl where
  code : Int
  msg : ByteArray
  push : Int
def Trl.g (t : Trl) : List G := [.int .i64 t.code, .str t.msg, .int .i64 t.push]
def tr0 : Trl := ⟨0, ⟨#[]⟩, 0⟩
def tr1 : Trl := ⟨0, ⟨#[]⟩, -2⟩
def trimL (x : ByteArray) : List UInt8 := Lib.trimSuffix x.data.toList [10]
def cutL (x : ByteArray) : List UInt8 × List UInt8 × Bool := Lib.cut (trimL x) [58, 32]
/-- Lines, from the one behind the first n on. -/
def parseP : List ByteArray → Int → Trl → Bool → Bool → Bool → Trl × Int × Int
  | [], _, t, h0, _, _ => if h0 then (t, 0, 0) else (tr0, 0, 7)
  | x :: xs, n, t, h0, h1, h2 => if (cutL x).2.2 = false then (tr0, n + 1, 5) else
    if kindN (cutL x).1 = 0 then (if h0 then (tr0, n + 1, 8) else parseP xs (n + 1) { t with code := codeI (cutL x).2.1 } true h1 h2)
    else if kindN (cutL x).1 = 1 then (if h1 then (tr0, n + 1, 8) else parseP xs (n + 1) { t with msg := strL (unqL (cutL x).2.1) } h0 true h2)
    else if kindN (cutL x).1 = 2 then (if h2 then (tr0, n + 1, 8) else parseP xs (n + 1) { t with push := numI (cutL x).2.1 7 } h0 h1 true)
    else parseP xs (n + 1) t h0 h1 h2
def parseT (s : ByteArray) : Trl × Int × Int := parseP (linesB s) 0 tr1 false false false
def resG (r : Trl × Int × Int) : G := .tup [.agg r.1.g, .int .i64 r.2.1, .int .i64 r.2.2]
theorem lines_count : ∀ l : List UInt8, (linesL l).length ≤ l.length ∧ ∀ x ∈ linesL l, x.length ≤ l.length
  | [] => by simp [linesL]
  | c :: l => by
    obtain ⟨h1, h2⟩ := lines_count l
    rw [linesL]
    split
    · refine ⟨by simp; omega, fun x hx => ?_⟩
      simp only [List.mem_cons] at hx
      rcases hx with rfl | hx
      · simp
      · have := h2 x hx; simp; omega
    · cases he : linesL l with
      | nil => simp
      | cons y ys =>
        rw [he] at h1 h2
        refine ⟨by simp at h1 ⊢; omega, fun x hx => ?_⟩
        simp only [List.mem_cons] at hx
        rcases hx with rfl | hx
        · have := h2 y (by simp); simp; omega
        · have := h2 x (by simp [hx]); simp; omega
theorem linesB_len (s : ByteArray) : (linesB s).length ≤ s.size ∧ ∀ x ∈ linesB s, x.size ≤ s.size := by
  obtain ⟨h1, h2⟩ := lines_count s.data.toList
  rw [size_list] at h1 h2
  refine ⟨by unfold linesB; rw [List.length_map]; exact h1, fun x hx => ?_⟩
  obtain ⟨y, hy, rfl⟩ := List.mem_map.1 hx
  rw [strL_size]; exact h2 y hy
theorem trimL_len (x : ByteArray) : (trimL x).length ≤ x.size := by
  unfold trimL Lib.trimSuffix
  split
  · rw [List.length_take, size_list]; omega
  · rw [size_list]; omega
theorem cutL_len (x : ByteArray) : (cutL x).1.length ≤ x.size ∧ (cutL x).2.1.length ≤ x.size := by
  have := trimL_len x
  unfold cutL Lib.cut
  split
  · simp only [List.length_take, List.length_drop]; omega
  · simp; omega
end Go.Proofs.YtijohhdgecadnaaDoor.Sp
namespace Go.Proofs.YtijohhdgecadnaaDoor.Sp
open Go Go.Proofs.YtijohhdgecadnaaDoor.Av
set_option linter.unusedVariables false

theorem linesL_hit : ∀ (a r : List UInt8), (∀ b ∈ a, b ≠ 10) → linesL (a ++ 10 :: r) = (a ++ [10]) :: linesL r
  | [], r, _ => by rw [List.nil_append, linesL, if_pos rfl]; rfl
  | c :: a, r, h => by
    rw [List.cons_append, linesL, if_neg (h c (by simp)), linesL_hit a r (fun b hb => h b (by simp [hb]))]; rfl
theorem linesL_miss : ∀ (a : List UInt8), (∀ b ∈ a, b ≠ 10) → a ≠ [] → linesL a = [a]
  | [], _, h => absurd rfl h
  | c :: a, h, _ => by
    rw [linesL, if_neg (h c (by simp))]
    cases a with
    | nil => rfl
    | cons d a => rw [linesL_miss (d :: a) (fun b hb => h b (by simp [hb])) (by simp)]
theorem trim_hit (a : List UInt8) : Lib.trimSuffix (a ++ [10]) [10] = a := by
  unfold Lib.trimSuffix Lib.hasSuffix
  rw [if_pos (List.isSuffixOf_iff_suffix.2 ⟨a, rfl⟩)]
  simp
theorem trim_miss (a : List UInt8) (h : ∀ b ∈ a, b ≠ 10) : Lib.trimSuffix a [10] = a := by
  unfold Lib.trimSuffix Lib.hasSuffix
  rw [if_neg]
  intro e
  obtain ⟨t, ht⟩ := List.isSuffixOf_iff_suffix.1 e
  exact h 10 (by rw [← ht]; simp) rfl
/-- Lines without their ends. -/
def lnL (l : List UInt8) : List (List UInt8) := (linesL l).map (Lib.trimSuffix · [10])
theorem lnL_hit (a r : List UInt8) (h : ∀ b ∈ a, b ≠ 10) : lnL (a ++ 10 :: r) = a :: lnL r := by unfold lnL; rw [linesL_hit a r h, List.map_cons, trim_hit]
theorem lnL_miss (a : List UInt8) (h : ∀ b ∈ a, b ≠ 10) (h0 : a ≠ []) : lnL a = [a] := by unfold lnL; rw [linesL_miss a h h0, List.map_cons, trim_miss a h]; rfl
theorem lnL_eq (s : ByteArray) : (linesB s).map trimL = lnL s.data.toList := by
  unfold linesB lnL trimL; rw [List.map_map]; rfl

def tab17 (c : Nat) : List UInt8 := if c < 10 then [UInt8.ofNat (48 + c)] else [49, UInt8.ofNat (38 + c)]
theorem tab17_eq {c : Nat} (h : c < 17) : Lib.decDigits c = tab17 c := by
  by_cases h1 : c < 10
  · rw [Lib.decDigits, dif_pos h1]; unfold tab17; rw [if_pos h1]
  · rw [Lib.decDigits, dif_neg h1, Lib.decDigits, dif_pos (by omega)]
    unfold tab17
    rw [if_neg h1, show c / 10 = 1 from by omega, show 48 + c % 10 = 38 + c from by omega]
    rfl
/-- A code by its digits. -/
def codeR (l : List UInt8) : Int := match (List.range 17).find? (fun c => tab17 c == l) with | some c => (c : Nat) | none => 2
theorem digs1 : ∀ a : Fin 10, codeI [UInt8.ofNat (48 + a.val)] = codeR [UInt8.ofNat (48 + a.val)] := by decide +kernel
theorem digs2 : ∀ a b : Fin 10, codeI [UInt8.ofNat (48 + a.val), UInt8.ofNat (48 + b.val)] = codeR [UInt8.ofNat (48 + a.val), UInt8.ofNat (48 + b.val)] := by decide +kernel
theorem dec17 : ∀ c : Fin 17, (tab17 c.val).all isDig = true ∧ (tab17 c.val).length ≤ 2 ∧ tab17 c.val ≠ [] := by decide +kernel
theorem dig_of {c : UInt8} (h : isDig c = true) : ∃ a : Fin 10, c = UInt8.ofNat (48 + a.val) := by
  have := of_decide_eq_true h
  exact ⟨⟨c.toNat - 48, by omega⟩, by simp only; rw [show 48 + (c.toNat - 48) = c.toNat from by omega]; simp⟩
theorem codeI_eq (l : List UInt8) : codeI l = codeR l := by
  by_cases hg : l.all isDig = true ∧ l.length ≤ 2 ∧ l ≠ []
  · obtain ⟨h1, h2, h3⟩ := hg
    match l, h2, h3 with
    | [a], _, _ =>
      simp only [List.all_cons, List.all_nil, Bool.and_true] at h1
      obtain ⟨x, rfl⟩ := dig_of h1
      exact digs1 x
    | [a, b], _, _ =>
      simp only [List.all_cons, List.all_nil, Bool.and_true, Bool.and_eq_true] at h1
      obtain ⟨x, rfl⟩ := dig_of h1.1
      obtain ⟨y, rfl⟩ := dig_of h1.2
      exact digs2 x y
  · have e1 : numI l 2 = -1 := by
      unfold numI
      rw [if_pos]
      by_cases h3 : l = []
      · exact .inl h3
      · by_cases h2 : l.length ≤ 2
        · refine .inr (.inr ?_)
          cases hx : l.all isDig with
          | false => rfl
          | true => exact absurd ⟨hx, h2, h3⟩ hg
        · exact .inr (.inl (by omega))
    have e2 : (List.range 17).find? (fun c => tab17 c == l) = none := by
      rw [List.find?_eq_none]
      intro c hc he
      have hc' : c < 17 := List.mem_range.1 hc
      have he' : tab17 c = l := by simpa using he
      have := dec17 ⟨c, hc'⟩
      simp only [he'] at this
      exact hg this
    unfold codeI codeR
    rw [e1, e2]
    rfl
end Go.Proofs.YtijohhdgecadnaaDoor.Sp
namespace Go.Proofs.YtijohhdgecadnaaDoor.Cn
open Go Go.Proofs Go.Proofs.YtijohhdgecadnaaDoor.Av Go.Proofs.YtijohhdgecadnaaDoor.Sp
set_option linter.unusedVariables false

theorem int_eq {a b : Int} (h : a = b) : G.int .i64 a = G.int .i64 b := by rw [h]
theorem bool_eq {a b : Bool} (h : a = b) : G.bool a = G.bool b := by rw [h]
theorem up1 {k n : Nat} (hk : k < n) (hn : n < 4611686018427387904) : IntKind.i64.wrap ((k : Int) + 1) = (k : Int) + 1 := wrap_i64 (by omega)
theorem own_le1 {α : Type} {l : List α} {R : α → List G} : 0 + l.length ≤ (l.map R).length := by simp
theorem own_all1 {α : Type} {l : List α} {R : α → List G} : ((l.map R).drop 0).take l.length = l.map R := by rw [List.drop_zero]; exact List.take_of_length_le (by simp)
end Go.Proofs.YtijohhdgecadnaaDoor.Cn
namespace Go.Proofs.YtijohhdgecadnaaDoor.Cn
open Go Go.Proofs Go.Proofs.YtijohhdgecadnaaDoor.Av Go.Proofs.YtijohhdgecadnaaDoor.Sp
set_option linter.unusedVariables false
set_option linter.unusedSimpArgs false
set_option linter.unusedSectionVars false
set_option maxRecDepth 100000
attribute [local irreducible] Fv Fp

theorem dec_small {n : Nat} (h : n < 10) : Lib.decDigits n = [UInt8.ofNat (48 + n)] := by rw [Lib.decDigits]; rw [dif_pos h]
theorem dec_more {n : Nat} (h : ¬ n < 10) : Lib.decDigits n = Lib.decDigits (n / 10) ++ [UInt8.ofNat (48 + n % 10)] := by rw [Lib.decDigits]; rw [dif_neg h]
theorem dig_at {n : Nat} (h : n < 10) : (⟨#[48, 49, 50, 51, 52, 53, 54, 55, 56, 57]⟩ : ByteArray).extract n (n + 1) = strL [UInt8.ofNat (48 + n)] := by
  have : n = 0 ∨ n = 1 ∨ n = 2 ∨ n = 3 ∨ n = 4 ∨ n = 5 ∨ n = 6 ∨ n = 7 ∨ n = 8 ∨ n = 9 := by omega
  rcases this with rfl | rfl | rfl | rfl | rfl | rfl | rfl | rfl | rfl | rfl <;> exact ext_list (by decide +kernel)
theorem dec_len (n : Nat) : (Lib.decDigits n).length ≤ n + 1 := by
  induction n using Nat.strongRecOn with
  | _ n ih =>
    by_cases h : n < 10
    · rw [dec_small h]; simp
    · rw [dec_more h]
      have := ih (n / 10) (by omega)
      simp only [List.length_append, List.length_cons, List.length_nil]
      omega
theorem digits_small (n : Int) (h0 : 0 ≤ n) (h : n < 10) (d : ByteArray) (hd : (⟨#[48, 49, 50, 51, 52, 53, 54, 55, 56, 57]⟩ : ByteArray).extract n.toNat (IntKind.i64.wrap (n + 1)).toNat = d) : Fv Tryd.prog 17 [.int .i64 n] (.str d) := by
  have w1 : IntKind.i64.wrap (n + 1) = n + 1 := wrap_i64 (by omega)
  have b0 : decide (n < 0) = false := decide_eq_false (by omega)
  have b1 : decide (n < 10) = true := decide_eq_true h
  have f1 : 0 ≤ n ∧ n ≤ IntKind.i64.wrap (n + 1) ∧ IntKind.i64.wrap (n + 1) ≤ ((10 : Nat) : Int) := by rw [w1]; omega
  refine Fv.of_awp Tryd.func17 rfl (by kernel_rfl) rfl (Nat.le_of_ble_eq_true rfl) ?_
  repeat' (conv => whnf
           first
           | (refine And.intro (Or.inl (by kernel_rfl)) ?_)
           | (refine And.intro (by kernel_rfl) ?_)
           | (refine And.intro ⟨by kernel_rfl, by kernel_rfl⟩ ?_)
           | (refine cond_0 b0 ?_)
           | (refine cond_1 b1 ?_)
           | (refine ⟨f1, ?_⟩)
           | (refine cond_f ?_ ?_)
           | (refine ⟨_, ⟨by decide, rfl⟩, ?_⟩)
           | (refine cond_i (fun h => ?_) (fun h => ?_)))
  all_goals (conv => whnf)
  all_goals rw [hd]
theorem digits_more (n q r : Int) (x d : ByteArray) (h00 : 0 ≤ n) (h : ¬ n < 10) (hq : IntKind.i64.wrap (n.tdiv 10) = q) (hr : n.tmod 10 = r) (h0 : 0 ≤ r ∧ r < 10) (hd : (⟨#[48, 49, 50, 51, 52, 53, 54, 55, 56, 57]⟩ : ByteArray).extract r.toNat (IntKind.i64.wrap (r + 1)).toNat = d)
    (n1 : Fv Tryd.prog 17 [.int .i64 q] (.str x)) (hz : ((x.size + d.size : Nat) : Int) ≤ 9223372036854775807) : Fv Tryd.prog 17 [.int .i64 n] (.str (x ++ d)) := by
  have w1 : IntKind.i64.wrap (r + 1) = r + 1 := wrap_i64 (by omega)
  have b0 : decide (n < 0) = false := decide_eq_false (by omega)
  have b1 : decide (n < 10) = false := decide_eq_false h
  have f1 : 0 ≤ r ∧ r ≤ IntKind.i64.wrap (r + 1) ∧ IntKind.i64.wrap (r + 1) ≤ ((10 : Nat) : Int) := by rw [w1]; omega
  subst hq hr hd
  refine Fv.of_awp Tryd.func17 rfl (by kernel_rfl) rfl (Nat.le_of_ble_eq_true rfl) ?_
  repeat' (conv => whnf
           first
           | (refine And.intro (Or.inl (by kernel_rfl)) ?_)
           | (refine And.intro (by kernel_rfl) ?_)
           | (refine And.intro ⟨by kernel_rfl, by kernel_rfl⟩ ?_)
           | (refine cond_0 b0 ?_)
           | (refine cond_0 b1 ?_)
           | (refine Or.inl ⟨_, n1, ?_⟩)
           | (refine ⟨_, n1, ?_⟩)
           | (refine ⟨f1, ?_⟩)
           | (refine ⟨hz, ?_⟩)
           | (refine cond_f ?_ ?_)
           | (refine ⟨_, ⟨by decide, rfl⟩, ?_⟩)
           | (refine cond_i (fun h => ?_) (fun h => ?_)))
  all_goals (conv => whnf)
  all_goals rfl
theorem ref06_Nat (n : Nat) : n < 9223372036854775808 → Fv Tryd.prog 17 [.int .i64 (n : Int)] (.str (strL (Lib.decDigits n))) := by
  induction n using Nat.strongRecOn with
  | _ n ih =>
    intro hn
    have lit : ∀ r : Nat, r < 10 → (⟨#[48, 49, 50, 51, 52, 53, 54, 55, 56, 57]⟩ : ByteArray).extract ((r : Nat) : Int).toNat (IntKind.i64.wrap (((r : Nat) : Int) + 1)).toNat = strL [UInt8.ofNat (48 + r)] := fun r hr => by
      rw [wrap_i64 (by omega), show (((r : Nat) : Int) + 1).toNat = r + 1 from by omega, Int.toNat_natCast]; exact dig_at hr
    by_cases h : n < 10
    · rw [dec_small h]
      exact digits_small n (by omega) (by omega) _ (lit n h)
    · rw [dec_more h, ← strL_app]
      have hl := dec_len (n / 10)
      refine digits_more n ((n / 10 : Nat) : Int) ((n % 10 : Nat) : Int) _ _ (by omega) (by omega) ?_ ?_ ⟨by omega, by omega⟩ (lit (n % 10) (by omega)) (ih (n / 10) (by omega) (by omega)) (by rw [strL_size, strL_size]; simp only [List.length_cons, List.length_nil]; omega)
      · rw [Int.tdiv_eq_ediv_of_nonneg (by omega), wrap_i64 (by omega)]; rfl
      · rw [Int.tmod_eq_emod_of_nonneg (by omega)]; rfl
end Go.Proofs.YtijohhdgecadnaaDoor.Cn
namespace Go.Proofs.YtijohhdgecadnaaDoor.Sp
open Go Go.Proofs.YtijohhdgecadnaaDoor.Av Go.Proofs.YtijohhdgecadnaaDoor.Cn
set_option linter.unusedVariables false

theorem occ_col (name rest : List UInt8) : Lib.occAt (name ++ 58 :: 32 :: rest) [58, 32] name.length = true := by
  unfold Lib.occAt
  rw [List.drop_left]; rfl
theorem occ_not (name rest : List UInt8) (h : ∀ b ∈ name, b ≠ 58) (j : Nat) (hj : j < name.length) : Lib.occAt (name ++ 58 :: 32 :: rest) [58, 32] j = false := by
  unfold Lib.occAt
  rw [List.drop_append_of_le_length (by omega), List.drop_eq_getElem_cons hj]
  have := h _ (List.getElem_mem hj)
  have e : ((58 : UInt8) == name[j]) = false := by simpa using fun e : (58 : UInt8) = name[j] => this e.symm
  rw [List.cons_append, List.isPrefixOf, e]; rfl
theorem cut_col (name rest : List UInt8) (h : ∀ b ∈ name, b ≠ 58) : Lib.cut (name ++ 58 :: 32 :: rest) [58, 32] = (name, rest, true) := by
  have e : Lib.index (name ++ 58 :: 32 :: rest) [58, 32] = (name.length : Int) := Lib.index_first (by simp) (occ_col name rest) (fun j hj => occ_not name rest h j hj)
  unfold Lib.cut
  rw [e, if_pos (by omega), Int.toNat_natCast, List.take_left]
  have : (name ++ 58 :: 32 :: rest).drop (name.length + [58, 32].length) = rest := by
    rw [← List.drop_drop, List.drop_left]; rfl
  simp only [Prod.mk.injEq, true_and, and_true]
  exact this
/-- A line with its end. -/
def lineL (name rest : List UInt8) : List UInt8 := (name ++ 58 :: 32 :: rest) ++ [10]
theorem cut_line (name rest : List UInt8) (h : ∀ b ∈ name, b ≠ 58) : cutL (strL (lineL name rest)) = (name, rest, true) := by
  unfold cutL trimL lineL
  rw [strL_list, trim_hit]; exact cut_col name rest h
theorem lines_line (name rest r : List UInt8) (h : ∀ b ∈ name, b ≠ 10) (h' : ∀ b ∈ rest, b ≠ 10) : linesL (lineL name rest ++ r) = lineL name rest :: linesL r := by
  unfold lineL
  rw [List.append_assoc]
  exact linesL_hit _ _ fun b hb => by
    rcases List.mem_append.1 hb with hb | hb
    · exact h b hb
    · rcases List.mem_cons.1 hb with rfl | hb
      · decide
      · rcases List.mem_cons.1 hb with rfl | hb
        · decide
        · exact h' b hb
def pcI (p : Int) : Int := if p < -1 then -1 else if p > 9999999 then 9999999 else p
def wantI (p : Int) : Int := if p = -2 then -2 else pcI p
def fmtL (c : Int) (m : List UInt8) (p : Int) : List UInt8 :=
  lineL wStatus (Lib.itoa c) ++ ((if m = [] then [] else lineL wMessage (quoteL m)) ++ (if p = -2 then [] else lineL wPushback (Lib.itoa (pcI p))))
theorem dec_dig (n : Nat) : (Lib.decDigits n).all isDig = true ∧ decL (Lib.decDigits n) = n ∧ Lib.decDigits n ≠ [] := by
  induction n using Nat.strongRecOn with
  | _ n ih =>
    have one : ∀ m : Nat, m < 10 → isDig (UInt8.ofNat (48 + m)) = true ∧ (UInt8.ofNat (48 + m)).toNat - 48 = m := fun m hm => by
      have : ∀ m : Fin 10, isDig (UInt8.ofNat (48 + m.val)) = true ∧ (UInt8.ofNat (48 + m.val)).toNat - 48 = m.val := by decide +kernel
      exact this ⟨m, hm⟩
    by_cases h : n < 10
    · rw [dec_small h]
      obtain ⟨h1, h2⟩ := one n h
      refine ⟨by rw [List.all_cons, h1]; rfl, ?_, by simp⟩
      rw [show [UInt8.ofNat (48 + n)] = [] ++ [UInt8.ofNat (48 + n)] from rfl, decL_snoc, h2]; simp [decL]
    · rw [dec_more h]
      obtain ⟨h1, h2, h3⟩ := ih (n / 10) (by omega)
      obtain ⟨h4, h5⟩ := one (n % 10) (by omega)
      refine ⟨by rw [List.all_append, h1, List.all_cons, h4]; rfl, ?_, by simp⟩
      rw [decL_snoc, h2, h5]; omega
theorem dec_len7 (k n : Nat) (h : n < 10 ^ (k + 1)) : (Lib.decDigits n).length ≤ k + 1 := by
  induction k generalizing n with
  | zero => rw [dec_small (by omega)]; simp
  | succ k ih =>
    by_cases h1 : n < 10
    · rw [dec_small h1]; simp
    · rw [dec_more h1, List.length_append]
      have := ih (n / 10) (by rw [Nat.pow_succ] at h; omega)
      simp only [List.length_cons, List.length_nil]; omega
theorem itoa_no10 (n : Int) : ∀ b ∈ Lib.itoa n, b ≠ 10 := by
  have key : ∀ k : Nat, ∀ b ∈ Lib.decDigits k, b ≠ 10 := fun k b hb => by
    have := List.all_eq_true.1 (dec_dig k).1 b hb
    have := of_decide_eq_true this
    intro e; rw [e] at this; exact absurd this (by decide)
  intro b hb
  unfold Lib.itoa at hb
  split at hb
  · rcases List.mem_cons.1 hb with rfl | hb
    · decide
    · exact key _ b hb
  · exact key _ b hb
theorem num_itoa (n : Int) (h : -1 ≤ n ∧ n ≤ 9999999) : numI (Lib.itoa n) 7 = n := by
  unfold Lib.itoa
  by_cases h0 : n < 0
  · rw [if_pos h0]
    unfold numI
    rw [if_pos (.inr (.inr (by rw [List.all_cons, show isDig 45 = false from by decide]; rfl)))]
    omega
  · rw [if_neg h0]
    obtain ⟨h1, h2, h3⟩ := dec_dig n.toNat
    have h4 := dec_len7 6 n.toNat (by omega)
    unfold numI
    rw [if_neg, h2]
    · omega
    · rintro (e | e | e)
      · exact h3 e
      · omega
      · rw [h1] at e; cases e
theorem code_itoa (n : Int) (h : 0 ≤ n ∧ n ≤ 16) : codeI (Lib.itoa n) = n := by
  have key : ∀ k : Fin 17, codeI (tab17 k.val) = (k.val : Int) := by decide +kernel
  have := key ⟨n.toNat, by omega⟩
  simp only at this
  unfold Lib.itoa
  rw [if_neg (by omega), tab17_eq (by omega), this]; omega
theorem w1_58 : ∀ b ∈ wStatus, b ≠ 58 := by decide
theorem w2_58 : ∀ b ∈ wMessage, b ≠ 58 := by decide
theorem w3_58 : ∀ b ∈ wPushback, b ≠ 58 := by decide
theorem w1_10 : ∀ b ∈ wStatus, b ≠ 10 := by decide
theorem w2_10 : ∀ b ∈ wMessage, b ≠ 10 := by decide
theorem w3_10 : ∀ b ∈ wPushback, b ≠ 10 := by decide
theorem quote_no10 (m : List UInt8) : ∀ b ∈ quoteL m, b ≠ 10 := fun b hb e => by
  have := quoteL_range m b hb
  rw [e] at this; exact absurd this (by decide)
theorem k_s : kindN wStatus = 0 := by decide +kernel
theorem k_m : kindN wMessage = 1 := by decide +kernel
theorem k_p : kindN wPushback = 2 := by decide +kernel
theorem fmt_lines (c : Int) (m : List UInt8) (p : Int) : linesL (fmtL c m p) = lineL wStatus (Lib.itoa c) :: ((if m = [] then [] else [lineL wMessage (quoteL m)]) ++ (if p = -2 then [] else [lineL wPushback (Lib.itoa (pcI p))])) := by
  unfold fmtL
  rw [lines_line _ _ _ w1_10 (itoa_no10 c)]
  congr 1
  have last : linesL (if p = -2 then [] else lineL wPushback (Lib.itoa (pcI p))) = (if p = -2 then [] else [lineL wPushback (Lib.itoa (pcI p))]) := by
    split
    · rfl
    · have := lines_line wPushback (Lib.itoa (pcI p)) [] w3_10 (itoa_no10 _)
      rw [List.append_nil] at this
      rw [this]; rfl
  split
  · rw [List.nil_append, List.nil_append]; exact last
  · rw [lines_line _ _ _ w2_10 (quote_no10 m), last]; rfl
theorem pcI_bd (p : Int) : -1 ≤ pcI p ∧ pcI p ≤ 9999999 := by unfold pcI; (repeat' split) <;> omega
theorem parse_fmt (c : Int) (hc : 0 ≤ c ∧ c ≤ 16) (m : ByteArray) (p : Int) : parseT (strL (fmtL c m.data.toList p)) = (⟨c, m, wantI p⟩, 0, 0) := by
  unfold parseT linesB
  rw [strL_list, fmt_lines]
  have hm0 : m.data.toList = [] → m = ⟨#[]⟩ := fun e => by rw [← strL_eq m, e]; rfl
  rw [List.map_cons, parseP, cut_line _ _ w1_58]
  simp only [k_s, code_itoa c hc, Bool.true_eq_false, if_false, if_true, Bool.false_eq_true]
  by_cases hm : m.data.toList = []
  · rw [if_pos hm, List.nil_append]
    by_cases hp : p = -2
    · rw [if_pos hp, List.map_nil, parseP]
      unfold wantI; rw [if_pos hp, hm0 hm]; rfl
    · rw [if_neg hp, List.map_cons, List.map_nil, parseP, cut_line _ _ w3_58]
      simp only [k_p, num_itoa _ (pcI_bd p), Bool.true_eq_false, if_false, if_true, Bool.false_eq_true, show ¬ (2 : Nat) = 0 from by decide, show ¬ (2 : Nat) = 1 from by decide]
      rw [parseP]
      unfold wantI; rw [if_neg hp, hm0 hm]; rfl
  · rw [if_neg hm, List.map_append, List.map_cons, List.map_nil, List.singleton_append, parseP, cut_line _ _ w2_58]
    simp only [k_m, unq_quote, strL_eq, Bool.true_eq_false, if_false, if_true, Bool.false_eq_true, Nat.one_ne_zero]
    by_cases hp : p = -2
    · rw [if_pos hp, List.map_nil, parseP]
      unfold wantI; rw [if_pos hp]; rfl
    · rw [if_neg hp, List.map_cons, List.map_nil, parseP, cut_line _ _ w3_58]
      simp only [k_p, num_itoa _ (pcI_bd p), Bool.true_eq_false, if_false, if_true, Bool.false_eq_true, show ¬ (2 : Nat) = 0 from by decide, show ¬ (2 : Nat) = 1 from by decide]
      rw [parseP]
      unfold wantI; rw [if_neg hp]; rfl
end Go.Proofs.YtijohhdgecadnaaDoor.Sp
namespace Go.Proofs.YtijohhdgecadnaaDoor.Cn
open Go Go.Proofs Go.Proofs.YtijohhdgecadnaaDoor.Av Go.Proofs.YtijohhdgecadnaaDoor.Sp Go.RowKit
set_option linter.unusedVariables false
set_option linter.unusedSimpArgs false
set_option linter.unusedSectionVars false
set_option maxRecDepth 100000
attribute [local irreducible] Fv Fp

def hexT : ByteArray := ⟨#[48, 49, 50, 51, 52, 53, 54, 55, 56, 57, 65, 66, 67, 68, 69, 70]⟩
theorem hexT_at {n : Nat} (h : n < 16) : hexT.extract n (n + 1) = strL [hexd n] := by
  have : ∀ n : Fin 16, hexT.extract n.val (n.val + 1) = strL [hexd n.val] := fun n => ext_list (by revert n; decide +kernel)
  exact this ⟨n, h⟩
theorem r37_digit (n : Nat) (h : n < 16) : Fv Tryd.prog 33 [.int .i64 (n : Int)] (.str (strL [hexd n])) := by
  have w1 : IntKind.i64.wrap ((n : Int) + 1) = (n : Int) + 1 := wrap_i64 (by omega)
  have f1 : 0 ≤ (n : Int) ∧ (n : Int) ≤ IntKind.i64.wrap ((n : Int) + 1) ∧ IntKind.i64.wrap ((n : Int) + 1) ≤ ((16 : Nat) : Int) := by rw [w1]; omega
  have e := hexT_at h
  rw [show n + 1 = (IntKind.i64.wrap ((n : Int) + 1)).toNat from by rw [w1]; omega] at e
  rw [← e]
  refine Fv.of_awp Tryd.func33 rfl (by kernel_rfl) rfl (Nat.le_of_ble_eq_true rfl) ?_
  repeat' (conv => whnf
           first
           | (refine And.intro (Or.inl (by kernel_rfl)) ?_)
           | (refine And.intro (by kernel_rfl) ?_)
           | (refine And.intro ⟨by kernel_rfl, by kernel_rfl⟩ ?_)
           | (refine ⟨f1, ?_⟩)
           | (refine cond_f ?_ ?_)
           | (refine ⟨_, ⟨by decide, rfl⟩, ?_⟩)
           | (refine cond_i (fun h => ?_) (fun h => ?_)))
  all_goals (conv => whnf)
  all_goals rfl
theorem wrap_u8m (n : Int) : IntKind.u8.wrap n = n % 256 := by
  unfold IntKind.wrap; simp [IntKind.bits, IntKind.signed]
theorem hd_nibble (c : Int) (h : 0 ≤ c ∧ c < 256) : Fv Tryd.prog 40 [.int .u8 c] (.int .u8 (nibN c.toNat : Nat)) := by
  obtain ⟨n, rfl⟩ : ∃ n : Nat, c = (n : Int) := ⟨c.toNat, by omega⟩
  rw [Int.toNat_natCast]
  refine Fv.of_awp Tryd.func40 rfl (by kernel_rfl) rfl (Nat.le_of_ble_eq_true rfl) ?_
  repeat' (conv => whnf
           first
           | (refine And.intro (Or.inl (by kernel_rfl)) ?_)
           | (refine And.intro (by kernel_rfl) ?_)
           | (refine And.intro ⟨by kernel_rfl, by kernel_rfl⟩ ?_)
           | (refine cond_f ?_ ?_)
           | (refine ⟨_, ⟨by decide, rfl⟩, ?_⟩)
           | (refine cond_i (fun h => ?_) (fun h => ?_)))
  all_goals (conv => whnf)
  all_goals (simp only [decide_eq_true_eq, decide_eq_false_iff_not] at *; congr 1; unfold nibN; (repeat' split) <;> (first | omega | (simp only [wrap_u8m]; omega)))
def hexI (c : Int) : Int := if nibN c.toNat < 16 then (nibN c.toNat : Nat) else -1
def hexA : ByteArray := ⟨#[48, 49, 50, 51, 52, 53, 54, 55, 56, 57, 65, 66, 67, 68, 69, 70, 97, 98, 99, 100, 101, 102]⟩
theorem hexA_hit : ∀ k : Fin 22, hexI (byteAt hexA k.val) = if k.val > 15 then (k.val : Int) - 6 else k.val := by decide +kernel
theorem hexA_miss : ∀ n : Fin 256, (∀ k : Fin 22, byteAt hexA k.val ≠ (n.val : Int)) → hexI (n.val : Int) = -1 := by decide +kernel
end Go.Proofs.YtijohhdgecadnaaDoor.Cn
namespace Go.Proofs.YtijohhdgecadnaaDoor.Cn
open Go Go.Proofs Go.Proofs.YtijohhdgecadnaaDoor.Av Go.Proofs.YtijohhdgecadnaaDoor.Sp
set_option linter.unusedVariables false
set_option linter.unusedSimpArgs false
set_option linter.unusedSectionVars false
set_option maxRecDepth 100000
attribute [local irreducible] Fv Fp

theorem noEsc : NoEsc Tryd.prog 41 := ⟨_, Tryd.func41, by kernel_rfl, by kernel_rfl, by kernel_rfl, by kernel_rfl⟩
theorem bld_check0 : Fp Tryd.prog 35 [.ptrt 0 49 2] [[.lit (.pointer none), .nilt]] [] (.tup [], [some [.ptrt 0 49 2, .nilt]], []) := by
  refine Fp.of_awp Tryd.func35 rfl (by kernel_rfl) (Nat.le_of_ble_eq_true rfl) ?_
  repeat' (conv => whnf
           first
           | (refine And.intro (Or.inl (by kernel_rfl)) ?_)
           | (refine And.intro (by kernel_rfl) ?_)
           | (refine And.intro ⟨by kernel_rfl, by kernel_rfl⟩ ?_)
           | (refine ⟨noEsc, ?_⟩)
           | (refine cond_f ?_ ?_)
           | (refine ⟨_, ⟨by decide, rfl⟩, ?_⟩)
           | (refine cond_i (fun h => ?_) (fun h => ?_)))
  all_goals (conv => whnf)
  all_goals rfl
theorem bld_check1 (g : G) (n : Nat) (xs : List (List G)) (hg : g = .ownt 0 n 5) : Fp Tryd.prog 35 [.ptrt 0 49 2] [[.ptrt 0 49 2, .ownt 0 n 5]] [xs] (.tup [], [some [.ptrt 0 49 2, .ownt 0 n 5]], [some xs]) := by
  refine Fp.of_awp Tryd.func35 rfl (by kernel_rfl) (Nat.le_of_ble_eq_true rfl) ?_
  repeat' (conv => whnf
           first
           | (refine And.intro (Or.inl (by kernel_rfl)) ?_)
           | (refine And.intro (by kernel_rfl) ?_)
           | (refine And.intro ⟨by kernel_rfl, by kernel_rfl⟩ ?_)
           | (refine cond_f ?_ ?_)
           | (refine ⟨_, ⟨by decide, rfl⟩, ?_⟩)
           | (refine cond_i (fun h => ?_) (fun h => ?_)))
  all_goals (conv => whnf)
  all_goals rfl
theorem u8c : Tryd.prog.cellsOf 5 = 1 := by kernel_rfl
theorem u8b : Tryd.prog.bytesOf 5 = 1 := by kernel_rfl
theorem u8_rows (l : List UInt8) : okRows (Tryd.prog.cellsOf 5) (l.map fun b => [G.int .u8 (b.toNat : Int)]) = true := by
  rw [u8c]; unfold okRows
  rw [List.all_eq_true]
  intro r hr
  obtain ⟨x, _, rfl⟩ := List.mem_map.1 hr
  rfl
theorem u8_fit (l : List UInt8) (h : l.length ≤ 1000000000) : fitsB Tryd.prog 5 (l.map fun b => [G.int .u8 (b.toNat : Int)]).length := by
  unfold fitsB; rw [u8b, List.length_map]; omega
theorem u8_app (l m : List UInt8) (h : l.length + m.length ≤ 1000000000) : 0 + (l.map fun b => [G.int .u8 (b.toNat : Int)]).length ≤ (l.map fun b => [G.int .u8 (b.toNat : Int)]).length ∧
    (0 < (l.map fun b => [G.int .u8 (b.toNat : Int)]).length + (m.map fun b => [G.int .u8 (b.toNat : Int)]).length ∨ (l.map fun b => [G.int .u8 (b.toNat : Int)]) = []) ∧
    fitsB Tryd.prog 5 ((l.map fun b => [G.int .u8 (b.toNat : Int)]).length + (m.map fun b => [G.int .u8 (b.toNat : Int)]).length) ∧ ∀ r ∈ (l.map fun b => [G.int .u8 (b.toNat : Int)]), r.length = Tryd.prog.cellsOf 5 := by
  refine ⟨by omega, ?_, by unfold fitsB; rw [u8b, List.length_map, List.length_map]; omega, fun r hr => by obtain ⟨x, _, rfl⟩ := List.mem_map.1 hr; rw [u8c]; rfl⟩
  cases l with
  | nil => exact .inr rfl
  | cons x l => exact .inl (by simp; omega)
theorem u8_tk (l m : List UInt8) : ((l.map fun b => [G.int .u8 (b.toNat : Int)]).drop 0).take (l.map fun b => [G.int .u8 (b.toNat : Int)]).length ++ (m.map fun b => [G.int .u8 (b.toNat : Int)]) = (l ++ m).map fun b => [G.int .u8 (b.toNat : Int)] := by rw [List.drop_zero, List.take_length, List.map_append]
theorem u8_ln (l m : List UInt8) : (l.map fun b => [G.int .u8 (b.toNat : Int)]).length + (m.map fun b => [G.int .u8 (b.toNat : Int)]).length = ((l ++ m).map fun b => [G.int .u8 (b.toNat : Int)]).length := by simp
/-- A builder's two cells: fresh, or with bytes. -/
def bldC (l : List UInt8) : List G := [.ptrt 0 49 2, .ownt 0 (l.map fun b => [G.int .u8 (b.toNat : Int)]).length 5]
def bldR (l : List UInt8) : List (List G) := l.map fun b => [G.int .u8 (b.toNat : Int)]
def bldZ : List G := [.lit (.pointer none), .nilt]
theorem bld_WriteString0 (s : ByteArray) (h : s.size ≤ 1000000000) : Fp Tryd.prog 22 [.ptrt 0 49 2, .str s] [bldZ] [] (.tup [.int .i64 (s.size : Int), .lit .nilIface], [some (bldC s.data.toList)], [some (bldR s.data.toList)]) := by
  have r1 := u8_rows s.data.toList
  have f1 := u8_fit s.data.toList (by rw [size_list]; exact h)
  refine Fp.of_awp Tryd.func22 rfl (by kernel_rfl) (Nat.le_of_ble_eq_true rfl) ?_
  repeat' (conv => whnf
           first
           | (refine And.intro (Or.inl (by kernel_rfl)) ?_)
           | (refine And.intro (by kernel_rfl) ?_)
           | (refine And.intro ⟨by kernel_rfl, by kernel_rfl⟩ ?_)
           | (refine Or.inr ⟨_, bld_check0, ?_⟩)
           | (refine cond_1 r1 ?_)
           | (refine ⟨f1, ?_⟩)
           | (refine cond_f ?_ ?_)
           | (refine ⟨_, ⟨by decide, rfl⟩, ?_⟩)
           | (refine cond_i (fun h => ?_) (fun h => ?_)))
  all_goals (conv => whnf)
  all_goals rfl
theorem bld_WriteString1 (l : List UInt8) (s : ByteArray) (h : l.length + s.size ≤ 1000000000) : Fp Tryd.prog 22 [.ptrt 0 49 2, .str s] [bldC l] [bldR l] (.tup [.int .i64 (s.size : Int), .lit .nilIface], [some (bldC (l ++ s.data.toList))], [some (bldR (l ++ s.data.toList))]) := by
  have r1 := u8_rows s.data.toList
  have f1 := u8_app l s.data.toList (by rw [size_list]; exact h)
  refine Fp.of_awp Tryd.func22 rfl (by kernel_rfl) (Nat.le_of_ble_eq_true rfl) ?_
  repeat' (conv => whnf
           first
           | (refine And.intro (Or.inl (by kernel_rfl)) ?_)
           | (refine And.intro (by kernel_rfl) ?_)
           | (refine And.intro ⟨by kernel_rfl, by kernel_rfl⟩ ?_)
           | (refine Or.inr ⟨_, bld_check1 _ _ (l.map fun b => [G.int .u8 (b.toNat : Int)]) rfl, ?_⟩)
           | (refine cond_1 r1 ?_)
           | (refine ⟨f1, ?_⟩)
           | (rw [u8_tk])
           | (rw [u8_ln])
           | (refine cond_f ?_ ?_)
           | (refine ⟨_, ⟨by decide, rfl⟩, ?_⟩)
           | (refine cond_i (fun h => ?_) (fun h => ?_)))
  all_goals (conv => whnf)
  all_goals rfl
theorem bld_WriteByte0 (c : UInt8) : Fp Tryd.prog 21 [.ptrt 0 49 2, .int .u8 (c.toNat : Int)] [bldZ] [] (.lit .nilIface, [some (bldC [c])], [some (bldR [c])]) := by
  have f1 := u8_fit [c] (by simp)
  refine Fp.of_awp Tryd.func21 rfl (by kernel_rfl) (Nat.le_of_ble_eq_true rfl) ?_
  repeat' (conv => whnf
           first
           | (refine And.intro (Or.inl (by kernel_rfl)) ?_)
           | (refine And.intro (by kernel_rfl) ?_)
           | (refine And.intro ⟨by kernel_rfl, by kernel_rfl⟩ ?_)
           | (refine Or.inr ⟨_, bld_check0, ?_⟩)
           | (refine ⟨f1, ?_⟩)
           | (refine cond_f ?_ ?_)
           | (refine ⟨_, ⟨by decide, rfl⟩, ?_⟩)
           | (refine cond_i (fun h => ?_) (fun h => ?_)))
  all_goals (conv => whnf)
  all_goals rfl
theorem bld_WriteByte1 (l : List UInt8) (c : UInt8) (h : l.length + 1 ≤ 1000000000) : Fp Tryd.prog 21 [.ptrt 0 49 2, .int .u8 (c.toNat : Int)] [bldC l] [bldR l] (.lit .nilIface, [some (bldC (l ++ [c]))], [some (bldR (l ++ [c]))]) := by
  have f1 := u8_app l [c] (by simpa using h)
  have e1 := u8_tk l [c]
  have e2 := u8_ln l [c]
  simp only [List.map_cons, List.map_nil] at f1 e1 e2
  refine Fp.of_awp Tryd.func21 rfl (by kernel_rfl) (Nat.le_of_ble_eq_true rfl) ?_
  repeat' (conv => whnf
           first
           | (refine And.intro (Or.inl (by kernel_rfl)) ?_)
           | (refine And.intro (by kernel_rfl) ?_)
           | (refine And.intro ⟨by kernel_rfl, by kernel_rfl⟩ ?_)
           | (refine Or.inr ⟨_, bld_check1 _ _ (l.map fun b => [G.int .u8 (b.toNat : Int)]) rfl, ?_⟩)
           | (refine ⟨f1, ?_⟩)
           | (rw [e1])
           | (rw [e2])
           | (refine cond_f ?_ ?_)
           | (refine ⟨_, ⟨by decide, rfl⟩, ?_⟩)
           | (refine cond_i (fun h => ?_) (fun h => ?_)))
  all_goals (conv => whnf)
  all_goals rfl
theorem bld_String0 : Fp Tryd.prog 23 [.ptrt 0 49 2] [bldZ] [] (.str (strL []), [some bldZ], []) := by
  refine Fp.of_awp Tryd.func23 rfl (by kernel_rfl) (Nat.le_of_ble_eq_true rfl) ?_
  repeat' (conv => whnf
           first
           | (refine And.intro (Or.inl (by kernel_rfl)) ?_)
           | (refine And.intro (by kernel_rfl) ?_)
           | (refine And.intro ⟨by kernel_rfl, by kernel_rfl⟩ ?_)
           | (refine ⟨rfl, ?_⟩)
           | (refine cond_f ?_ ?_)
           | (refine ⟨_, ⟨by decide, rfl⟩, ?_⟩)
           | (refine cond_i (fun h => ?_) (fun h => ?_)))
  all_goals (conv => whnf)
  all_goals rfl
theorem bld_String1 (l : List UInt8) (h : l.length ≤ 1000000000) : Fp Tryd.prog 23 [.ptrt 0 49 2] [bldC l] [bldR l] (.str (strL l), [some [.ptrt 0 49 2, .dead]], [none]) := by
  have f1 : (((l.map fun b => [G.int .u8 (b.toNat : Int)]).length : Nat) : Int) = (l.length : Int) ∧ l.length ≤ 9223372036854775807 ∧ (l.map fun b => [G.int .u8 (b.toNat : Int)]).take l.length = l.map fun b => [G.int .u8 (b.toNat : Int)] := ⟨by simp, by omega, List.take_of_length_le (by simp)⟩
  refine Fp.of_awp Tryd.func23 rfl (by kernel_rfl) (Nat.le_of_ble_eq_true rfl) ?_
  repeat' (conv => whnf
           first
           | (refine And.intro (Or.inl (by kernel_rfl)) ?_)
           | (refine And.intro (by kernel_rfl) ?_)
           | (refine And.intro ⟨by kernel_rfl, by kernel_rfl⟩ ?_)
           | (refine ⟨l, f1, ?_⟩)
           | (refine cond_f ?_ ?_)
           | (refine ⟨_, ⟨by decide, rfl⟩, ?_⟩)
           | (refine cond_i (fun h => ?_) (fun h => ?_)))
  all_goals (conv => whnf)
  all_goals rfl
end Go.Proofs.YtijohhdgecadnaaDoor.Cn
namespace Go.Proofs.YtijohhdgecadnaaDoor.Cn
open Go Go.Proofs Go.Proofs.YtijohhdgecadnaaDoor.Av Go.Proofs.YtijohhdgecadnaaDoor.Sp Go.RowKit
set_option linter.unusedVariables false
set_option linter.unusedSimpArgs false
set_option linter.unusedSectionVars false
set_option maxRecDepth 100000
attribute [local irreducible] Fv Fp

/-- A builder: unused; used, its bytes in row a; in row b. -/
abbrev BS := Bool × Bool × List UInt8
theorem quoteL_take (s : ByteArray) {k : Nat} (hk : k < s.size) : quoteL (s.data.toList.take (k + 1)) = quoteL (s.data.toList.take k) ++ quo1 (s.data.toList.getD k 0) := by
  have hl : k < s.data.toList.length := by rw [size_list]; exact hk
  unfold quoteL
  rw [List.take_add_one, List.getElem?_eq_getElem hl, List.flatMap_append, List.getD_eq_getElem?_getD, List.getElem?_eq_getElem hl]; simp
def qlo (x : Int) : Int := x.fdiv (2 ^ min (Int.toNat 4) IntKind.u8.bits)
def qlo2 (x : Int) : Int := IntKind.u8.wrap ((BitVec.ofInt IntKind.u8.bits x &&& BitVec.ofInt IntKind.u8.bits 15).toNat)
def quoX (x : Int) : ByteArray := ((⟨#[37]⟩ : ByteArray) ++ hexT.extract (qlo x).toNat (IntKind.u8.wrap (qlo x + 1)).toNat) ++ hexT.extract (qlo2 x).toNat (IntKind.u8.wrap (qlo2 x + 1)).toNat
theorem qlo_eq (n : Nat) : qlo (n : Int) = ((n / 16 : Nat) : Int) := by
  unfold qlo
  rw [show (2 : Int) ^ min (Int.toNat 4) IntKind.u8.bits = ((16 : Nat) : Int) from by decide, Int.fdiv_eq_ediv_of_nonneg _ (by omega)]
  rfl
theorem qlo2_eq : ∀ n : Fin 256, qlo2 (n.val : Int) = ((n.val % 16 : Nat) : Int) := by decide +kernel
theorem quo_f1 (x : Int) (h : 0 ≤ x ∧ x < 256) : 0 ≤ qlo x ∧ qlo x ≤ IntKind.u8.wrap (qlo x + 1) ∧ IntKind.u8.wrap (qlo x + 1) ≤ ((16 : Nat) : Int) := by
  obtain ⟨n, rfl⟩ : ∃ n : Nat, x = (n : Int) := ⟨x.toNat, by omega⟩
  rw [qlo_eq, wrap_u8m]; omega
theorem quo_f2 (x : Int) (h : 0 ≤ x ∧ x < 256) : 0 ≤ qlo2 x ∧ qlo2 x ≤ IntKind.u8.wrap (qlo2 x + 1) ∧ IntKind.u8.wrap (qlo2 x + 1) ≤ ((16 : Nat) : Int) := by
  have := qlo2_eq ⟨x.toNat, by omega⟩
  simp only at this
  rw [show ((x.toNat : Nat) : Int) = x from by omega] at this
  rw [this, wrap_u8m]; omega
theorem quoX_eq (c : UInt8) (h : okc c = false) : quoX (c.toNat : Int) = strL (quo1 c) := by
  have hc := c.toNat_lt
  have h2 := qlo2_eq ⟨c.toNat, by omega⟩
  simp only at h2
  unfold quoX
  rw [h2, qlo_eq, wrap_u8m, wrap_u8m]
  rw [show ((((c.toNat / 16 : Nat) : Int) + 1) % 256).toNat = c.toNat / 16 + 1 from by omega, show ((((c.toNat % 16 : Nat) : Int) + 1) % 256).toNat = c.toNat % 16 + 1 from by omega, Int.toNat_natCast, Int.toNat_natCast,
    hexT_at (by omega), hexT_at (by omega)]
  unfold quo1
  rw [h]
  exact ext_list (by rw [app_list, app_list]; rfl)
theorem hexT_sz (a b : Nat) : (hexT.extract a b).size ≤ 16 := by rw [ByteArray.size_extract]; have : hexT.size = 16 := rfl; omega
theorem quo_s1 (x : Int) : ((((⟨#[37]⟩ : ByteArray).size + (hexT.extract (qlo x).toNat (IntKind.u8.wrap (qlo x + 1)).toNat).size : Nat)) : Int) ≤ 9223372036854775807 := by
  have := hexT_sz (qlo x).toNat (IntKind.u8.wrap (qlo x + 1)).toNat
  have : (⟨#[37]⟩ : ByteArray).size = 1 := rfl
  omega
theorem quo_s2 (x : Int) : (((((⟨#[37]⟩ : ByteArray) ++ hexT.extract (qlo x).toNat (IntKind.u8.wrap (qlo x + 1)).toNat).size + (hexT.extract (qlo2 x).toNat (IntKind.u8.wrap (qlo2 x + 1)).toNat).size : Nat)) : Int) ≤ 9223372036854775807 := by
  have := hexT_sz (qlo x).toNat (IntKind.u8.wrap (qlo x + 1)).toNat
  have := hexT_sz (qlo2 x).toNat (IntKind.u8.wrap (qlo2 x + 1)).toNat
  have : (⟨#[37]⟩ : ByteArray).size = 1 := rfl
  rw [ByteArray.size_append]
  omega
theorem quoX_sz (x : Int) : (quoX x).size ≤ 33 := by
  unfold quoX
  have := hexT_sz (qlo x).toNat (IntKind.u8.wrap (qlo x + 1)).toNat
  have := hexT_sz (qlo2 x).toNat (IntKind.u8.wrap (qlo2 x + 1)).toNat
  have : (⟨#[37]⟩ : ByteArray).size = 1 := rfl
  rw [ByteArray.size_append, ByteArray.size_append]
  omega
set_option maxHeartbeats 4000000 in
theorem hd_Quote (s : ByteArray) (h : s.size ≤ 100000) : Fv Tryd.prog 10 [.str s] (.str (strL (quoteL s.data.toList))) := by
  refine Fv.of_awp Tryd.func10 rfl (by kernel_rfl) rfl (Nat.le_of_ble_eq_true rfl) ?_
  repeat' (conv => whnf
           first
           | (refine And.intro (Or.inl (by kernel_rfl)) ?_)
           | (refine And.intro (by kernel_rfl) ?_)
           | (refine And.intro ⟨by kernel_rfl, by kernel_rfl⟩ ?_)
           | (refine cond_f ?_ ?_)
           | (refine ⟨_, ⟨by decide, rfl⟩, ?_⟩)
           | (refine cond_i (fun h => ?_) (fun h => ?_)))
  all_goals (conv => whnf)
  refine Has.each [0, 3, 7, 8] [] s.size (fun k (b : BS) => b.2.2 = quoteL (s.data.toList.take k) ∧ (b.1 = false → k = 0)) (fun b i =>
    Bool.rec (motive := fun _ => St) (St.of 43 [(0, .str s), (3, .ptrt 3 49 2), (7, .int .i64 s.size), (8, .int .i64 i)] [(3, bldZ)] [])
     (Bool.rec (motive := fun _ => St) (St.of 43 [(0, .str s), (3, .ptrt 3 49 2), (7, .int .i64 s.size), (8, .int .i64 i)] [(3, [.ptrt 3 49 2, .ownt 25 (bldR b.2.2).length 5])] [(25, bldR b.2.2)])
      (St.of 43 [(0, .str s), (3, .ptrt 3 49 2), (7, .int .i64 s.size), (8, .int .i64 i)] [(3, [.ptrt 3 49 2, .ownt 40 (bldR b.2.2).length 5])] [(40, bldR b.2.2)]) b.2.1) b.1)
    ⟨(false, false, []), 0, rfl, ⟨rfl, fun _ => rfl⟩, rfl⟩ (fun k b hk hI => ?_) (fun b hI => ?_)
  · obtain ⟨b, r, out⟩ := b
    obtain ⟨ho, hI⟩ := hI
    simp only at *
    have hq := quoteL_take s hk
    rw [← ho] at hq
    have hlen := quoteL_len (s.data.toList.take k)
    rw [← ho, List.length_take, size_list] at hlen
    have hc : byteAt s k = ((s.data.toList.getD k 0).toNat : Int) := rfl
    obtain ⟨x, hx⟩ : ∃ x, byteAt s k = x := ⟨_, rfl⟩
    obtain ⟨c, hcc⟩ : ∃ c, s.data.toList.getD k 0 = c := ⟨_, rfl⟩
    have hcl := c.toNat_lt
    rw [hcc] at hq hc
    have hxb : 0 ≤ byteAt s k ∧ byteAt s k < 256 := by rw [hc]; omega
    have g1 := quo_f1 _ hxb
    have g2 := quo_f2 _ hxb
    have s1 := quo_s1 (byteAt s k)
    have s2 := quo_s2 (byteAt s k)
    have hz := quoX_sz (byteAt s k)
    have b0 : decide ((k : Int) < (s.size : Int)) = true := decide_eq_true (by omega)
    have f0 : 0 ≤ (k : Int) ∧ (k : Int) < (s.size : Int) := by omega
    have hout : out.length ≤ 300000 := by omega
    have eT : okc c = true → quoteL (s.data.toList.take (k + 1)) = out ++ [c] := fun h => by rw [hq]; unfold quo1; rw [h]; rfl
    have eF : okc c = false → quoteL (s.data.toList.take (k + 1)) = out ++ (quoX (byteAt s k)).data.toList := fun h => by rw [hq, hc, quoX_eq c h]; rfl
    have w1 : IntKind.i64.wrap ((k : Int) + 1) = (k : Int) + 1 := wrap_i64 (by omega)
    have tT : okc c = true → decide (byteAt s k ≥ 32) = true ∧ decide (byteAt s k ≤ 126) = true ∧ (byteAt s k != 37) = true := fun h => by
      have := of_decide_eq_true h
      refine ⟨decide_eq_true (by omega), decide_eq_true (by omega), ?_⟩
      simp only [bne_iff_ne, ne_eq]; omega
    have tF : okc c = false → decide (byteAt s k ≥ 32) = true → decide (byteAt s k ≤ 126) = true → (byteAt s k != 37) = true → False := fun h a1 a2 a3 => by
      have h' := of_decide_eq_false h
      have a1 := of_decide_eq_true a1
      have a2 := of_decide_eq_true a2
      simp only [bne_iff_ne, ne_eq] at a3
      exact h' ⟨by omega, by omega, by omega⟩
    subst hcc
    cases b with
    | false =>
      obtain rfl : k = 0 := hI rfl
      obtain rfl : out = [] := ho
      cases hok : okc (s.data.toList.getD 0 0) with
      | true =>
        obtain ⟨t1, t2, t3⟩ := tT hok
        have n1 := bld_WriteByte0 (s.data.toList.getD 0 0)
        refine awp_go ?_
        repeat' (conv => whnf
                 first
                 | (refine And.intro (Or.inl (by kernel_rfl)) ?_)
                 | (refine And.intro (by kernel_rfl) ?_)
                 | (refine And.intro ⟨by kernel_rfl, by kernel_rfl⟩ ?_)
                 | (refine cond_1 b0 ?_)
                 | (refine ⟨f0, ?_⟩)
                 | (refine cond_1 t1 ?_)
                 | (refine cond_1 t2 ?_)
                 | (refine cond_1 t3 ?_)
                 | (refine Or.inr ⟨_, n1, ?_⟩)
                 | (refine cond_f ?_ ?_)
                 | (refine ⟨_, ⟨by decide, rfl⟩, ?_⟩)
                 | (refine cond_i (fun h => ?_) (fun h => ?_)))
        all_goals (conv => whnf)
        exact ⟨(true, false, [s.data.toList.getD 0 0]), _, rfl, ⟨(eT hok).symm, fun h => nomatch h⟩, w1⟩
      | false =>
        have n2 := bld_WriteString0 (quoX (byteAt s 0)) (by omega)
        refine awp_go ?_
        repeat' (conv => whnf
                 first
                 | (refine And.intro (Or.inl (by kernel_rfl)) ?_)
                 | (refine And.intro (by kernel_rfl) ?_)
                 | (refine And.intro ⟨by kernel_rfl, by kernel_rfl⟩ ?_)
                 | (refine cond_1 b0 ?_)
                 | (refine ⟨f0, ?_⟩)
                 | (refine Or.inr ⟨_, n2, ?_⟩)
                 | (refine ⟨g1, ?_⟩)
                 | (refine ⟨g2, ?_⟩)
                 | (refine ⟨s1, ?_⟩)
                 | (refine ⟨s2, ?_⟩)
                 | (refine cond_f ?_ ?_)
                 | (refine ⟨_, ⟨by decide, rfl⟩, ?_⟩)
                 | (refine cond_i (fun h => ?_) (fun h => ?_)))
        all_goals (conv => whnf)
        all_goals first
          | (exfalso; exact tF hok (by assumption) (by assumption) (by assumption))
          | exact ⟨(true, true, (quoX (byteAt s 0)).data.toList), _, rfl, ⟨(eF hok).symm, fun h => nomatch h⟩, w1⟩
    | true =>
      cases hok : okc (s.data.toList.getD k 0) with
      | true =>
        obtain ⟨t1, t2, t3⟩ := tT hok
        have n1 := bld_WriteByte1 out (s.data.toList.getD k 0) (by omega)
        rw [← eT hok] at n1
        cases r with
        | false =>
          refine awp_go ?_
          repeat' (conv => whnf
                   first
                   | (refine And.intro (Or.inl (by kernel_rfl)) ?_)
                   | (refine And.intro (by kernel_rfl) ?_)
                   | (refine And.intro ⟨by kernel_rfl, by kernel_rfl⟩ ?_)
                   | (refine cond_1 b0 ?_)
                   | (refine ⟨f0, ?_⟩)
                   | (refine cond_1 t1 ?_)
                   | (refine cond_1 t2 ?_)
                   | (refine cond_1 t3 ?_)
                   | (refine Or.inr ⟨_, n1, ?_⟩)
                   | (refine cond_f ?_ ?_)
                   | (refine ⟨_, ⟨by decide, rfl⟩, ?_⟩)
                   | (refine cond_i (fun h => ?_) (fun h => ?_)))
          all_goals (conv => whnf)
          exact ⟨(true, false, quoteL (s.data.toList.take (k + 1))), _, rfl, ⟨rfl, fun h => nomatch h⟩, w1⟩
        | true =>
          refine awp_go ?_
          repeat' (conv => whnf
                   first
                   | (refine And.intro (Or.inl (by kernel_rfl)) ?_)
                   | (refine And.intro (by kernel_rfl) ?_)
                   | (refine And.intro ⟨by kernel_rfl, by kernel_rfl⟩ ?_)
                   | (refine cond_1 b0 ?_)
                   | (refine ⟨f0, ?_⟩)
                   | (refine cond_1 t1 ?_)
                   | (refine cond_1 t2 ?_)
                   | (refine cond_1 t3 ?_)
                   | (refine Or.inr ⟨_, n1, ?_⟩)
                   | (refine cond_f ?_ ?_)
                   | (refine ⟨_, ⟨by decide, rfl⟩, ?_⟩)
                   | (refine cond_i (fun h => ?_) (fun h => ?_)))
          all_goals (conv => whnf)
          exact ⟨(true, true, quoteL (s.data.toList.take (k + 1))), _, rfl, ⟨rfl, fun h => nomatch h⟩, w1⟩
      | false =>
        have n2 := bld_WriteString1 out (quoX (byteAt s k)) (by omega)
        rw [← eF hok] at n2
        cases r with
        | false =>
          refine awp_go ?_
          repeat' (conv => whnf
                   first
                   | (refine And.intro (Or.inl (by kernel_rfl)) ?_)
                   | (refine And.intro (by kernel_rfl) ?_)
                   | (refine And.intro ⟨by kernel_rfl, by kernel_rfl⟩ ?_)
                   | (refine cond_1 b0 ?_)
                   | (refine ⟨f0, ?_⟩)
                   | (refine Or.inr ⟨_, n2, ?_⟩)
                   | (refine ⟨g1, ?_⟩)
                   | (refine ⟨g2, ?_⟩)
                   | (refine ⟨s1, ?_⟩)
                   | (refine ⟨s2, ?_⟩)
                   | (refine cond_f ?_ ?_)
                   | (refine ⟨_, ⟨by decide, rfl⟩, ?_⟩)
                   | (refine cond_i (fun h => ?_) (fun h => ?_)))
          all_goals (conv => whnf)
          all_goals first
            | (exfalso; exact tF hok (by assumption) (by assumption) (by assumption))
            | exact ⟨(true, false, quoteL (s.data.toList.take (k + 1))), _, rfl, ⟨rfl, fun h => nomatch h⟩, w1⟩
        | true =>
          refine awp_go ?_
          repeat' (conv => whnf
                   first
                   | (refine And.intro (Or.inl (by kernel_rfl)) ?_)
                   | (refine And.intro (by kernel_rfl) ?_)
                   | (refine And.intro ⟨by kernel_rfl, by kernel_rfl⟩ ?_)
                   | (refine cond_1 b0 ?_)
                   | (refine ⟨f0, ?_⟩)
                   | (refine Or.inr ⟨_, n2, ?_⟩)
                   | (refine ⟨g1, ?_⟩)
                   | (refine ⟨g2, ?_⟩)
                   | (refine ⟨s1, ?_⟩)
                   | (refine ⟨s2, ?_⟩)
                   | (refine cond_f ?_ ?_)
                   | (refine ⟨_, ⟨by decide, rfl⟩, ?_⟩)
                   | (refine cond_i (fun h => ?_) (fun h => ?_)))
          all_goals (conv => whnf)
          all_goals first
            | (exfalso; exact tF hok (by assumption) (by assumption) (by assumption))
            | exact ⟨(true, true, quoteL (s.data.toList.take (k + 1))), _, rfl, ⟨rfl, fun h => nomatch h⟩, w1⟩
  · obtain ⟨b, r, out⟩ := b
    obtain ⟨ho, hI⟩ := hI
    simp only at *
    rw [show s.data.toList.take s.size = s.data.toList from by rw [← size_list, List.take_length]] at ho
    have hlen := quoteL_len s.data.toList
    rw [size_list] at hlen
    have b0 : decide ((s.size : Int) < (s.size : Int)) = false := by simp
    subst ho
    cases b with
    | false =>
      have h0 := hI rfl
      have e : s.data.toList = [] := List.length_eq_zero_iff.1 (by rw [size_list]; exact h0)
      rw [e]
      refine awp_go ?_
      repeat' (conv => whnf
               first
               | (refine And.intro (Or.inl (by kernel_rfl)) ?_)
               | (refine And.intro (by kernel_rfl) ?_)
               | (refine And.intro ⟨by kernel_rfl, by kernel_rfl⟩ ?_)
               | (refine cond_0 b0 ?_)
               | (refine Or.inr ⟨_, bld_String0, ?_⟩)
               | (refine cond_f ?_ ?_)
               | (refine ⟨_, ⟨by decide, rfl⟩, ?_⟩)
               | (refine cond_i (fun h => ?_) (fun h => ?_)))
      all_goals (conv => whnf)
      all_goals rfl
    | true =>
      have n3 := bld_String1 (quoteL s.data.toList) (by omega)
      cases r with
      | false =>
        refine awp_go ?_
        repeat' (conv => whnf
                 first
                 | (refine And.intro (Or.inl (by kernel_rfl)) ?_)
                 | (refine And.intro (by kernel_rfl) ?_)
                 | (refine And.intro ⟨by kernel_rfl, by kernel_rfl⟩ ?_)
                 | (refine cond_0 b0 ?_)
                 | (refine Or.inr ⟨_, n3, ?_⟩)
                 | (refine cond_f ?_ ?_)
                 | (refine ⟨_, ⟨by decide, rfl⟩, ?_⟩)
                 | (refine cond_i (fun h => ?_) (fun h => ?_)))
        all_goals (conv => whnf)
        all_goals rfl
      | true =>
        refine awp_go ?_
        repeat' (conv => whnf
                 first
                 | (refine And.intro (Or.inl (by kernel_rfl)) ?_)
                 | (refine And.intro (by kernel_rfl) ?_)
                 | (refine And.intro ⟨by kernel_rfl, by kernel_rfl⟩ ?_)
                 | (refine cond_0 b0 ?_)
                 | (refine Or.inr ⟨_, n3, ?_⟩)
                 | (refine cond_f ?_ ?_)
                 | (refine ⟨_, ⟨by decide, rfl⟩, ?_⟩)
                 | (refine cond_i (fun h => ?_) (fun h => ?_)))
        all_goals (conv => whnf)
        all_goals rfl
end Go.Proofs.YtijohhdgecadnaaDoor.Cn
namespace Go.Proofs.YtijohhdgecadnaaDoor.Cn
open Go Go.Proofs Go.Proofs.YtijohhdgecadnaaDoor.Av Go.Proofs.YtijohhdgecadnaaDoor.Sp Go.RowKit
set_option linter.unusedVariables false
set_option linter.unusedSimpArgs false
set_option linter.unusedSectionVars false
set_option maxRecDepth 100000
attribute [local irreducible] Fv Fp

theorem sz_ok {x y : ByteArray} {K : Prop} (h : x.size + y.size ≤ 9223372036854775807) (k : K) : ((x.size + y.size : Nat) : Int) ≤ 9223372036854775807 ∧ K := ⟨by omega, k⟩
theorem quoL_eq (out : List UInt8) (c : UInt8) (h : okc c = false) : strL out ++ ⟨#[37]⟩ ++ strL [hexd (c.toNat / 16)] ++ strL [hexd (c.toNat % 16)] = strL (out ++ quo1 c) := by
  unfold quo1
  rw [h]
  exact ext_list (by rw [app_list, app_list, app_list]; simp [strL_list])
theorem okc_eq {c : UInt8} (h : okc c = true) : quo1 c = [c] := by unfold quo1; rw [h]; rfl
theorem ext_one (s : ByteArray) {k : Nat} (hk : k < s.size) : s.extract k (k + 1) = strL [s.data.toList.getD k 0] := by
  have hl : k < s.data.toList.length := by rw [size_list]; exact hk
  refine ext_list ?_
  rw [ext_take, List.drop_take, show k + 1 - k = 1 from by omega, List.drop_eq_getElem_cons hl, List.getD_eq_getElem?_getD, List.getElem?_eq_getElem hl]
  rfl
set_option maxHeartbeats 4000000 in
theorem r37_Quote (s : ByteArray) (h : s.size ≤ 100000) : Fv Tryd.prog 19 [.str s] (.str (strL (quoteL s.data.toList))) := by
  refine Fv.of_awp Tryd.func19 rfl (by kernel_rfl) rfl (Nat.le_of_ble_eq_true rfl) ?_
  repeat' (conv => whnf
           first
           | (refine And.intro (Or.inl (by kernel_rfl)) ?_)
           | (refine And.intro (by kernel_rfl) ?_)
           | (refine And.intro ⟨by kernel_rfl, by kernel_rfl⟩ ?_)
           | (refine cond_f ?_ ?_)
           | (refine ⟨_, ⟨by decide, rfl⟩, ?_⟩)
           | (refine cond_i (fun h => ?_) (fun h => ?_)))
  all_goals (conv => whnf)
  refine Has.each [0, 3, 4] [] s.size (fun k (b : List UInt8) => b = quoteL (s.data.toList.take k)) (fun b i => St.of 51 [(0, .str s), (3, .str (strL b)), (4, .int .i64 i)] [] []) ⟨[], 0, rfl, rfl, rfl⟩ (fun k out hk ho => ?_) (fun out ho => ?_)
  · have hq := quoteL_take s hk
    rw [← ho] at hq
    have hlen := quoteL_len (s.data.toList.take k)
    rw [← ho, List.length_take, size_list] at hlen
    have hc : byteAt s k = ((s.data.toList.getD k 0).toNat : Int) := rfl
    obtain ⟨c, hcc⟩ : ∃ c, s.data.toList.getD k 0 = c := ⟨_, rfl⟩
    have hcl := c.toNat_lt
    rw [hcc] at hq hc
    have b0 : decide ((k : Int) < (s.size : Int)) = true := decide_eq_true (by omega)
    have f0 : 0 ≤ (k : Int) ∧ (k : Int) < (s.size : Int) := by omega
    have w1 : IntKind.i64.wrap ((k : Int) + 1) = (k : Int) + 1 := wrap_i64 (by omega)
    have hsz : (strL out).size ≤ 300000 := by rw [strL_size]; omega
    have one : ∀ n, (strL [hexd n]).size = 1 := fun n => rfl
    have one' : (⟨#[37]⟩ : ByteArray).size = 1 := rfl
    cases hok : okc c with
    | true =>
      have := of_decide_eq_true hok
      have t1 : decide (byteAt s k < 32) = false := decide_eq_false (by omega)
      have t2 : decide (byteAt s k > 126) = false := decide_eq_false (by omega)
      have t3 : (byteAt s k == 37) = false := by simp only [beq_eq_false_iff_ne, ne_eq]; omega
      have f1 : 0 ≤ (k : Int) ∧ (k : Int) ≤ IntKind.i64.wrap ((k : Int) + 1) ∧ IntKind.i64.wrap ((k : Int) + 1) ≤ (s.size : Int) := by rw [w1]; omega
      have e1 : s.extract (Int.toNat (k : Int)) (IntKind.i64.wrap ((k : Int) + 1)).toNat = strL [c] := by
        rw [w1, show ((k : Int) + 1).toNat = k + 1 from by omega, Int.toNat_natCast]
        rw [ext_one s hk, hcc]
      have s1 : (((strL out).size + (s.extract (Int.toNat (k : Int)) (IntKind.i64.wrap ((k : Int) + 1)).toNat).size : Nat) : Int) ≤ 9223372036854775807 := by rw [e1, strL_size [c]]; simp only [List.length_cons, List.length_nil]; omega
      refine awp_go ?_
      repeat' (conv => whnf
               first
               | (refine And.intro (Or.inl (by kernel_rfl)) ?_)
               | (refine And.intro (by kernel_rfl) ?_)
               | (refine And.intro ⟨by kernel_rfl, by kernel_rfl⟩ ?_)
               | (refine cond_1 b0 ?_)
               | (refine ⟨f0, ?_⟩)
               | (refine cond_0 t1 ?_)
               | (refine cond_0 t2 ?_)
               | (refine cond_0 t3 ?_)
               | (refine ⟨f1, ?_⟩)
               | (refine ⟨s1, ?_⟩)
               | (refine cond_f ?_ ?_)
               | (refine ⟨_, ⟨by decide, rfl⟩, ?_⟩)
               | (refine cond_i (fun h => ?_) (fun h => ?_)))
      all_goals (conv => whnf)
      refine ⟨quoteL (s.data.toList.take (k + 1)), _, ?_, rfl, w1⟩
      have e2 : strL out ++ s.extract (Int.toNat (k : Int)) (IntKind.i64.wrap ((k : Int) + 1)).toNat = strL (quoteL (s.data.toList.take (k + 1))) := by rw [e1, strL_app, hq, okc_eq hok]
      rw [← e2]
      rfl
    | false =>
      have n1 := r37_digit (c.toNat / 16) (by omega)
      have n2 := r37_digit (c.toNat % 16) (by omega)
      have q1 : IntKind.i64.wrap ((IntKind.i64.wrap (byteAt s k)).tdiv 16) = ((c.toNat / 16 : Nat) : Int) := by rw [hc, wrap_i64 (n := (c.toNat : Int)) (by omega), Int.tdiv_eq_ediv_of_nonneg (by omega), wrap_i64 (by omega)]; rfl
      have q2 : (IntKind.i64.wrap (byteAt s k)).tmod 16 = ((c.toNat % 16 : Nat) : Int) := by rw [hc, wrap_i64 (n := (c.toNat : Int)) (by omega), Int.tmod_eq_emod_of_nonneg (by omega)]; rfl
      rw [← q1] at n1
      rw [← q2] at n2
      have o1 := one (c.toNat / 16)
      have o2 := one (c.toNat % 16)
      have hno : (byteAt s k < 32 ∨ byteAt s k > 126 ∨ byteAt s k = 37) := by have := of_decide_eq_false hok; omega
      have e2 : strL out ++ ⟨#[37]⟩ ++ strL [hexd (c.toNat / 16)] ++ strL [hexd (c.toNat % 16)] = strL (quoteL (s.data.toList.take (k + 1))) := by rw [quoL_eq out c hok, hq]
      refine awp_go ?_
      repeat' (conv => whnf
               first
               | (refine And.intro (Or.inl (by kernel_rfl)) ?_)
               | (refine And.intro (by kernel_rfl) ?_)
               | (refine And.intro ⟨by kernel_rfl, by kernel_rfl⟩ ?_)
               | (refine cond_1 b0 ?_)
               | (refine ⟨f0, ?_⟩)
               | (refine Or.inl ⟨_, n1, ?_⟩)
               | (refine ⟨_, n1, ?_⟩)
               | (refine Or.inl ⟨_, n2, ?_⟩)
               | (refine ⟨_, n2, ?_⟩)
               | (refine sz_ok (by first | omega | (simp only [ByteArray.size_append]; omega)) ?_)
               | (refine cond_f ?_ ?_)
               | (refine ⟨_, ⟨by decide, rfl⟩, ?_⟩)
               | (refine cond_i (fun h => ?_) (fun h => ?_)))
      all_goals (conv => whnf)
      all_goals first
        | (exfalso
           have a1 : ¬ byteAt s k < 32 := by refine of_decide_eq_false ?_; assumption
           have a2 : ¬ byteAt s k > 126 := by refine of_decide_eq_false ?_; assumption
           have a3 : (byteAt s k == 37) = false := by assumption
           simp only [beq_eq_false_iff_ne, ne_eq] at a3
           omega)
        | (refine ⟨quoteL (s.data.toList.take (k + 1)), _, ?_, rfl, w1⟩
           rw [← e2]
           rfl)
  · rw [show s.data.toList.take s.size = s.data.toList from by rw [← size_list, List.take_length]] at ho
    subst ho
    have b0 : decide ((s.size : Int) < (s.size : Int)) = false := decide_eq_false (by omega)
    refine awp_go ?_
    repeat' (conv => whnf
             first
             | (refine And.intro (Or.inl (by kernel_rfl)) ?_)
             | (refine And.intro (by kernel_rfl) ?_)
             | (refine And.intro ⟨by kernel_rfl, by kernel_rfl⟩ ?_)
             | (refine cond_0 b0 ?_)
             | (refine cond_f ?_ ?_)
             | (refine ⟨_, ⟨by decide, rfl⟩, ?_⟩)
             | (refine cond_i (fun h => ?_) (fun h => ?_)))
    all_goals (conv => whnf)
    all_goals rfl
end Go.Proofs.YtijohhdgecadnaaDoor.Cn
namespace Go.Proofs.YtijohhdgecadnaaDoor.Cn
open Go Go.Proofs Go.Proofs.YtijohhdgecadnaaDoor.Av Go.Proofs.YtijohhdgecadnaaDoor.Sp Go.RowKit
set_option linter.unusedVariables false
set_option linter.unusedSimpArgs false
set_option linter.unusedSectionVars false
set_option maxRecDepth 100000
attribute [local irreducible] Fv Fp

def qE (a b : Int) : Int := IntKind.u8.wrap ((BitVec.ofInt IntKind.u8.bits (IntKind.u8.wrap (a * 2 ^ min (Int.toNat 4) IntKind.u8.bits)) ||| BitVec.ofInt IntKind.u8.bits b).toNat)
theorem qE_eq : ∀ a b : Fin 16, qE (a.val : Int) (b.val : Int) = ((16 * a.val + b.val : Nat) : Int) := by decide +kernel
theorem getD_drop (l : List UInt8) (i j : Nat) : (l.drop i).getD j 0 = l.getD (i + j) 0 := by rw [List.getD_eq_getElem?_getD, List.getD_eq_getElem?_getD, List.getElem?_drop]
theorem isQ_at (s : ByteArray) (i : Nat) : isQ (s.data.toList.drop i) = decide (byteAt s i = 37 ∧ i + 2 < s.size ∧ nibN (byteAt s (i + 1)).toNat < 16 ∧ nibN (byteAt s (i + 2)).toNat < 16) := by
  unfold isQ
  rw [getD_drop, getD_drop, getD_drop, List.length_drop, size_list, Nat.add_zero]
  apply decide_eq_decide.2
  have e : s.data.toList.getD i 0 = 37 ↔ byteAt s i = 37 := by
    show _ ↔ ((s.data.toList.getD i 0).toNat : Int) = 37
    constructor
    · intro h; rw [h]; rfl
    · intro h
      have h2 : (s.data.toList.getD i 0).toNat = 37 := by omega
      exact UInt8.toNat_inj.1 h2
  rw [e]
  have e1 : byteAt s (i + 1) = ((s.data.toList.getD (i + 1) 0).toNat : Int) := rfl
  have e2 : byteAt s (i + 2) = ((s.data.toList.getD (i + 2) 0).toNat : Int) := rfl
  rw [e1, e2, Int.toNat_natCast, Int.toNat_natCast]
  constructor
  · rintro ⟨a, b, c, d⟩; exact ⟨a, by omega, c, d⟩
  · rintro ⟨a, b, c, d⟩; exact ⟨a, by omega, c, d⟩
theorem qByte_at (s : ByteArray) (i : Nat) (h : isQ (s.data.toList.drop i) = true) : qE (nibN (byteAt s (i + 1)).toNat : Nat) (nibN (byteAt s (i + 2)).toNat : Nat) = ((qByte (s.data.toList.drop i)).toNat : Int) := by
  rw [isQ_at] at h
  obtain ⟨_, _, h1, h2⟩ := of_decide_eq_true h
  have := qE_eq ⟨_, h1⟩ ⟨_, h2⟩
  simp only at this
  rw [this]
  unfold qByte
  rw [getD_drop, getD_drop]
  have e1 : (byteAt s (i + 1)).toNat = (s.data.toList.getD (i + 1) 0).toNat := Int.toNat_natCast _
  have e2 : (byteAt s (i + 2)).toNat = (s.data.toList.getD (i + 2) 0).toNat := Int.toNat_natCast _
  rw [e1] at h1
  rw [e2] at h2
  rw [e1, e2]
  rw [UInt8.toNat_ofNat']
  congr 1
  omega
theorem drop_cons (s : ByteArray) {i : Nat} (h : i < s.size) : s.data.toList.drop i = s.data.toList.getD i 0 :: s.data.toList.drop (i + 1) := by
  have hl : i < s.data.toList.length := by rw [size_list]; exact h
  rw [List.drop_eq_getElem_cons hl, List.getD_eq_getElem?_getD, List.getElem?_eq_getElem hl]; rfl

/-- The state at the loop's head. -/
noncomputable def unSt (s : ByteArray) (b : Bool × Bool × List UInt8) (i : Int) : St :=
  Bool.rec (motive := fun _ => St) (St.of 58 [(0, .str s), (3, .ptrt 3 49 2), (4, .int .i64 i)] [(3, bldZ)] [])
     (Bool.rec (motive := fun _ => St) (St.of 58 [(0, .str s), (3, .ptrt 3 49 2), (4, .int .i64 i)] [(3, [.ptrt 3 49 2, .ownt 50 (bldR b.2.2).length 5])] [(50, bldR b.2.2)])
      (St.of 58 [(0, .str s), (3, .ptrt 3 49 2), (4, .int .i64 i)] [(3, [.ptrt 3 49 2, .ownt 56 (bldR b.2.2).length 5])] [(56, bldR b.2.2)]) b.2.1) b.1
def unI (s : ByteArray) (b : Bool × Bool × List UInt8) (i : Nat) : Prop := i ≤ s.size ∧ b.2.2 ++ unqL (s.data.toList.drop i) = unqL s.data.toList ∧ (b.1 = false → b.2.2 = [])
set_option maxHeartbeats 8000000 in
theorem hd_Unquote (s : ByteArray) (h : s.size ≤ 1000000) : Fv Tryd.prog 31 [.str s] (.str (strL (unqL s.data.toList))) := by
  have hall : (unqL s.data.toList).length ≤ s.size := by rw [← size_list]; exact unqL_len _ _
  refine Fv.of_awp Tryd.func31 rfl (by kernel_rfl) rfl (Nat.le_of_ble_eq_true rfl) ?_
  repeat' (conv => whnf
           first
           | (refine And.intro (Or.inl (by kernel_rfl)) ?_)
           | (refine And.intro (by kernel_rfl) ?_)
           | (refine And.intro ⟨by kernel_rfl, by kernel_rfl⟩ ?_)
           | (refine cond_f ?_ ?_)
           | (refine ⟨_, ⟨by decide, rfl⟩, ?_⟩)
           | (refine cond_i (fun h => ?_) (fun h => ?_)))
  all_goals (conv => whnf)
  refine Has.loopD [0, 3, 4] [] (fun m st => ∃ b i, m = s.size - i ∧ unI s b i ∧ st = unSt s b (i : Nat)) s.size ⟨(false, false, []), 0, by omega, ⟨by omega, by simp, fun _ => rfl⟩, rfl⟩ (fun m st hJ => ?_)
  obtain ⟨b, i, rfl, ⟨hi, hu, hb⟩, rfl⟩ := hJ
  obtain ⟨b, r, out⟩ := b
  simp only at hu hb
  have hout : out.length ≤ 1000000 := by have := congrArg List.length hu; rw [List.length_append] at this; omega
  have f9 : 0 ≤ (i : Int) := by omega
  by_cases hlt : i < s.size
  · have b0 : decide ((i : Int) < (s.size : Int)) = true := decide_eq_true (by omega)
    have f0 : 0 ≤ (i : Int) ∧ (i : Int) < (s.size : Int) := by omega
    have w1 : IntKind.i64.wrap ((i : Int) + 1) = (i : Int) + 1 := wrap_i64 (by omega)
    have w2 : IntKind.i64.wrap ((i : Int) + 2) = (i : Int) + 2 := wrap_i64 (by omega)
    have w3 : IntKind.i64.wrap (IntKind.i64.wrap ((i : Int) + 2) + 1) = (i : Int) + 3 := by rw [w2, wrap_i64 (by omega)]; omega
    have i1 : ((i + 1 : Nat) : Int) = IntKind.i64.wrap ((i : Int) + 1) := by rw [w1]; rfl
    have i3 : ((i + 3 : Nat) : Int) = IntKind.i64.wrap (IntKind.i64.wrap ((i : Int) + 2) + 1) := by rw [w3]; rfl
    have hd1 : (IntKind.i64.wrap ((i : Int) + 1)).toNat = i + 1 := by rw [w1]; omega
    have hd2 : (IntKind.i64.wrap ((i : Int) + 2)).toNat = i + 2 := by rw [w2]; omega
    have n1 := hd_nibble (byteAt s (IntKind.i64.wrap ((i : Int) + 1)).toNat) (byteAt_bd _ _)
    have n2 := hd_nibble (byteAt s (IntKind.i64.wrap ((i : Int) + 2)).toNat) (byteAt_bd _ _)
    have f1 : decide (IntKind.i64.wrap ((i : Int) + 2) < (s.size : Int)) = true → 0 ≤ IntKind.i64.wrap ((i : Int) + 1) ∧ IntKind.i64.wrap ((i : Int) + 1) < (s.size : Int) := fun e => by
      have := of_decide_eq_true e; rw [w2] at this; rw [w1]; omega
    have f2 : decide (IntKind.i64.wrap ((i : Int) + 2) < (s.size : Int)) = true → 0 ≤ IntKind.i64.wrap ((i : Int) + 2) ∧ IntKind.i64.wrap ((i : Int) + 2) < (s.size : Int) := fun e => by
      have := of_decide_eq_true e; rw [w2] at this; rw [w2]; omega
    have hQ := isQ_at s i
    rw [← hd1, ← hd2] at hQ
    have tT : isQ (s.data.toList.drop i) = true → (byteAt s i == 37) = true ∧ decide (IntKind.i64.wrap ((i : Int) + 2) < (s.size : Int)) = true ∧ decide (((nibN (byteAt s (IntKind.i64.wrap ((i : Int) + 1)).toNat).toNat : Nat) : Int) < 16) = true ∧ decide (((nibN (byteAt s (IntKind.i64.wrap ((i : Int) + 2)).toNat).toNat : Nat) : Int) < 16) = true := fun e => by
      rw [hQ] at e
      obtain ⟨a1, a2, a3, a4⟩ := of_decide_eq_true e
      exact ⟨by simpa using a1, decide_eq_true (by rw [w2]; omega), decide_eq_true (by omega), decide_eq_true (by omega)⟩
    have tF : isQ (s.data.toList.drop i) = false → (byteAt s i == 37) = true → decide (IntKind.i64.wrap ((i : Int) + 2) < (s.size : Int)) = true → decide (((nibN (byteAt s (IntKind.i64.wrap ((i : Int) + 1)).toNat).toNat : Nat) : Int) < 16) = true → decide (((nibN (byteAt s (IntKind.i64.wrap ((i : Int) + 2)).toNat).toNat : Nat) : Int) < 16) = true → False := fun e a1 a2 a3 a4 => by
      rw [hQ] at e
      have a2 := of_decide_eq_true a2
      have a3 := of_decide_eq_true a3
      have a4 := of_decide_eq_true a4
      rw [w2] at a2
      exact of_decide_eq_false e ⟨by simpa using a1, by omega, by omega, by omega⟩
    have eT : isQ (s.data.toList.drop i) = true → i + 3 ≤ s.size ∧ (out ++ [qByte (s.data.toList.drop i)]) ++ unqL (s.data.toList.drop (i + 3)) = unqL s.data.toList := fun e => by
      have e2 := e
      rw [isQ_at] at e2
      refine ⟨by have := (of_decide_eq_true e2).2.1; omega, ?_⟩
      rw [← hu, unqL_q e, List.drop_drop, List.append_assoc]; rfl
    have eF : isQ (s.data.toList.drop i) = false → (out ++ [s.data.toList.getD i 0]) ++ unqL (s.data.toList.drop (i + 1)) = unqL s.data.toList := fun e => by
      have e2 := drop_cons s hlt
      rw [← hu, e2, unqL_c (by rw [← e2]; exact e), List.append_assoc]; rfl
    have qb : isQ (s.data.toList.drop i) = true → ((qByte (s.data.toList.drop i)).toNat : Int) = qE (nibN (byteAt s (IntKind.i64.wrap ((i : Int) + 1)).toNat).toNat : Nat) (nibN (byteAt s (IntKind.i64.wrap ((i : Int) + 2)).toNat).toNat : Nat) := fun e => by
      rw [hd1, hd2]; exact (qByte_at s i e).symm
    cases hq : isQ (s.data.toList.drop i) with
    | true =>
      obtain ⟨t1, t2, t3, t4⟩ := tT hq
      obtain ⟨hle, eT⟩ := eT hq
      have qb := qb hq
      have f1 := f1 t2
      have f2 := f2 t2
      cases b with
      | false =>
        obtain rfl : out = [] := hb rfl
        have n5 := bld_WriteByte0 (qByte (s.data.toList.drop i))
        rw [qb] at n5
        refine awp_go ?_
        repeat' (conv => whnf
                 first
                 | (refine And.intro (Or.inl (by kernel_rfl)) ?_)
                 | (refine And.intro (by kernel_rfl) ?_)
                 | (refine And.intro ⟨by kernel_rfl, by kernel_rfl⟩ ?_)
                 | (refine cond_1 b0 ?_)
                 | (refine ⟨f0, ?_⟩)
                 | (refine cond_1 t1 ?_)
                 | (refine cond_1 t2 ?_)
                 | (refine ⟨f1, ?_⟩)
                 | (refine Or.inl ⟨_, n1, ?_⟩)
                 | (refine ⟨_, n1, ?_⟩)
                 | (refine cond_1 t3 ?_)
                 | (refine ⟨f2, ?_⟩)
                 | (refine Or.inl ⟨_, n2, ?_⟩)
                 | (refine ⟨_, n2, ?_⟩)
                 | (refine cond_1 t4 ?_)
                 | (refine Or.inr ⟨_, n5, ?_⟩)
                 | (refine cond_f ?_ ?_)
                 | (refine ⟨_, ⟨by decide, rfl⟩, ?_⟩)
                 | (refine cond_i (fun h => ?_) (fun h => ?_)))
        all_goals (conv => whnf)
        exact ⟨s.size - (i + 3), by omega, (true, false, [qByte (s.data.toList.drop i)]), i + 3, rfl, ⟨hle, eT, fun h => nomatch h⟩, by rw [i3]; rfl⟩
      | true =>
        have n5 := bld_WriteByte1 out (qByte (s.data.toList.drop i)) (by omega)
        rw [qb] at n5
        cases r with
        | false =>
          refine awp_go ?_
          repeat' (conv => whnf
                   first
                   | (refine And.intro (Or.inl (by kernel_rfl)) ?_)
                   | (refine And.intro (by kernel_rfl) ?_)
                   | (refine And.intro ⟨by kernel_rfl, by kernel_rfl⟩ ?_)
                   | (refine cond_1 b0 ?_)
                   | (refine ⟨f0, ?_⟩)
                   | (refine cond_1 t1 ?_)
                   | (refine cond_1 t2 ?_)
                   | (refine ⟨f1, ?_⟩)
                   | (refine Or.inl ⟨_, n1, ?_⟩)
                   | (refine ⟨_, n1, ?_⟩)
                   | (refine cond_1 t3 ?_)
                   | (refine ⟨f2, ?_⟩)
                   | (refine Or.inl ⟨_, n2, ?_⟩)
                   | (refine ⟨_, n2, ?_⟩)
                   | (refine cond_1 t4 ?_)
                   | (refine Or.inr ⟨_, n5, ?_⟩)
                   | (refine cond_f ?_ ?_)
                   | (refine ⟨_, ⟨by decide, rfl⟩, ?_⟩)
                   | (refine cond_i (fun h => ?_) (fun h => ?_)))
          all_goals (conv => whnf)
          exact ⟨s.size - (i + 3), by omega, (true, false, out ++ [qByte (s.data.toList.drop i)]), i + 3, rfl, ⟨hle, eT, fun h => nomatch h⟩, by rw [i3]; rfl⟩
        | true =>
          refine awp_go ?_
          repeat' (conv => whnf
                   first
                   | (refine And.intro (Or.inl (by kernel_rfl)) ?_)
                   | (refine And.intro (by kernel_rfl) ?_)
                   | (refine And.intro ⟨by kernel_rfl, by kernel_rfl⟩ ?_)
                   | (refine cond_1 b0 ?_)
                   | (refine ⟨f0, ?_⟩)
                   | (refine cond_1 t1 ?_)
                   | (refine cond_1 t2 ?_)
                   | (refine ⟨f1, ?_⟩)
                   | (refine Or.inl ⟨_, n1, ?_⟩)
                   | (refine ⟨_, n1, ?_⟩)
                   | (refine cond_1 t3 ?_)
                   | (refine ⟨f2, ?_⟩)
                   | (refine Or.inl ⟨_, n2, ?_⟩)
                   | (refine ⟨_, n2, ?_⟩)
                   | (refine cond_1 t4 ?_)
                   | (refine Or.inr ⟨_, n5, ?_⟩)
                   | (refine cond_f ?_ ?_)
                   | (refine ⟨_, ⟨by decide, rfl⟩, ?_⟩)
                   | (refine cond_i (fun h => ?_) (fun h => ?_)))
          all_goals (conv => whnf)
          exact ⟨s.size - (i + 3), by omega, (true, true, out ++ [qByte (s.data.toList.drop i)]), i + 3, rfl, ⟨hle, eT, fun h => nomatch h⟩, by rw [i3]; rfl⟩
    | false =>
      have eF := eF hq
      have tF := tF hq
      cases b with
      | false =>
        obtain rfl : out = [] := hb rfl
        have n5 := bld_WriteByte0 (s.data.toList.getD i 0)
        refine awp_go ?_
        repeat' (conv => whnf
                 first
                 | (refine And.intro (Or.inl (by kernel_rfl)) ?_)
                 | (refine And.intro (by kernel_rfl) ?_)
                 | (refine And.intro ⟨by kernel_rfl, by kernel_rfl⟩ ?_)
                 | (refine cond_1 b0 ?_)
                 | (refine ⟨f0, ?_⟩)
                 | (refine ⟨f1 (by assumption), ?_⟩)
                 | (refine Or.inl ⟨_, n1, ?_⟩)
                 | (refine ⟨_, n1, ?_⟩)
                 | (refine ⟨f2 (by assumption), ?_⟩)
                 | (refine Or.inl ⟨_, n2, ?_⟩)
                 | (refine ⟨_, n2, ?_⟩)
                 | (refine Or.inr ⟨_, n5, ?_⟩)
                 | (refine cond_f ?_ ?_)
                 | (refine ⟨_, ⟨by decide, rfl⟩, ?_⟩)
                 | (refine cond_i (fun h => ?_) (fun h => ?_)))
        all_goals (conv => whnf)
        all_goals first
          | (exfalso; exact tF (by assumption) (by assumption) (by assumption) (by assumption))
          | exact ⟨s.size - (i + 1), by omega, (true, true, [s.data.toList.getD i 0]), i + 1, rfl, ⟨hlt, eF, fun h => nomatch h⟩, by rw [i1]; rfl⟩
      | true =>
        have n5 := bld_WriteByte1 out (s.data.toList.getD i 0) (by omega)
        cases r with
        | false =>
          refine awp_go ?_
          repeat' (conv => whnf
                   first
                   | (refine And.intro (Or.inl (by kernel_rfl)) ?_)
                   | (refine And.intro (by kernel_rfl) ?_)
                   | (refine And.intro ⟨by kernel_rfl, by kernel_rfl⟩ ?_)
                   | (refine cond_1 b0 ?_)
                   | (refine ⟨f0, ?_⟩)
                   | (refine ⟨f1 (by assumption), ?_⟩)
                   | (refine Or.inl ⟨_, n1, ?_⟩)
                   | (refine ⟨_, n1, ?_⟩)
                   | (refine ⟨f2 (by assumption), ?_⟩)
                   | (refine Or.inl ⟨_, n2, ?_⟩)
                   | (refine ⟨_, n2, ?_⟩)
                   | (refine Or.inr ⟨_, n5, ?_⟩)
                   | (refine cond_f ?_ ?_)
                   | (refine ⟨_, ⟨by decide, rfl⟩, ?_⟩)
                   | (refine cond_i (fun h => ?_) (fun h => ?_)))
          all_goals (conv => whnf)
          all_goals first
            | (exfalso; exact tF (by assumption) (by assumption) (by assumption) (by assumption))
            | exact ⟨s.size - (i + 1), by omega, (true, false, out ++ [s.data.toList.getD i 0]), i + 1, rfl, ⟨hlt, eF, fun h => nomatch h⟩, by rw [i1]; rfl⟩
        | true =>
          refine awp_go ?_
          repeat' (conv => whnf
                   first
                   | (refine And.intro (Or.inl (by kernel_rfl)) ?_)
                   | (refine And.intro (by kernel_rfl) ?_)
                   | (refine And.intro ⟨by kernel_rfl, by kernel_rfl⟩ ?_)
                   | (refine cond_1 b0 ?_)
                   | (refine ⟨f0, ?_⟩)
                   | (refine ⟨f1 (by assumption), ?_⟩)
                   | (refine Or.inl ⟨_, n1, ?_⟩)
                   | (refine ⟨_, n1, ?_⟩)
                   | (refine ⟨f2 (by assumption), ?_⟩)
                   | (refine Or.inl ⟨_, n2, ?_⟩)
                   | (refine ⟨_, n2, ?_⟩)
                   | (refine Or.inr ⟨_, n5, ?_⟩)
                   | (refine cond_f ?_ ?_)
                   | (refine ⟨_, ⟨by decide, rfl⟩, ?_⟩)
                   | (refine cond_i (fun h => ?_) (fun h => ?_)))
          all_goals (conv => whnf)
          all_goals first
            | (exfalso; exact tF (by assumption) (by assumption) (by assumption) (by assumption))
            | exact ⟨s.size - (i + 1), by omega, (true, true, out ++ [s.data.toList.getD i 0]), i + 1, rfl, ⟨hlt, eF, fun h => nomatch h⟩, by rw [i1]; rfl⟩
  · obtain rfl : i = s.size := by omega
    have b0 : decide ((s.size : Int) < (s.size : Int)) = false := decide_eq_false (by omega)
    rw [show s.data.toList.drop s.size = [] from List.drop_eq_nil_of_le (by rw [size_list]; omega), unqL_nil, List.append_nil] at hu
    subst hu
    cases b with
    | false =>
      have hb := hb rfl
      rw [hb]
      refine awp_go ?_
      repeat' (conv => whnf
               first
               | (refine And.intro (Or.inl (by kernel_rfl)) ?_)
               | (refine And.intro (by kernel_rfl) ?_)
               | (refine And.intro ⟨by kernel_rfl, by kernel_rfl⟩ ?_)
               | (refine cond_0 b0 ?_)
               | (refine Or.inr ⟨_, bld_String0, ?_⟩)
               | (refine cond_f ?_ ?_)
               | (refine ⟨_, ⟨by decide, rfl⟩, ?_⟩)
               | (refine cond_i (fun h => ?_) (fun h => ?_)))
      all_goals (conv => whnf)
      all_goals rfl
    | true =>
      have n3 := bld_String1 (unqL s.data.toList) (by omega)
      cases r with
      | false =>
        refine awp_go ?_
        repeat' (conv => whnf
                 first
                 | (refine And.intro (Or.inl (by kernel_rfl)) ?_)
                 | (refine And.intro (by kernel_rfl) ?_)
                 | (refine And.intro ⟨by kernel_rfl, by kernel_rfl⟩ ?_)
                 | (refine cond_0 b0 ?_)
                 | (refine Or.inr ⟨_, n3, ?_⟩)
                 | (refine cond_f ?_ ?_)
                 | (refine ⟨_, ⟨by decide, rfl⟩, ?_⟩)
                 | (refine cond_i (fun h => ?_) (fun h => ?_)))
        all_goals (conv => whnf)
        all_goals rfl
      | true =>
        refine awp_go ?_
        repeat' (conv => whnf
                 first
                 | (refine And.intro (Or.inl (by kernel_rfl)) ?_)
                 | (refine And.intro (by kernel_rfl) ?_)
                 | (refine And.intro ⟨by kernel_rfl, by kernel_rfl⟩ ?_)
                 | (refine cond_0 b0 ?_)
                 | (refine Or.inr ⟨_, n3, ?_⟩)
                 | (refine cond_f ?_ ?_)
                 | (refine ⟨_, ⟨by decide, rfl⟩, ?_⟩)
                 | (refine cond_i (fun h => ?_) (fun h => ?_)))
        all_goals (conv => whnf)
        all_goals rfl
end Go.Proofs.YtijohhdgecadnaaDoor.Cn
namespace Go.Proofs.YtijohhdgecadnaaDoor.Cn
open Go Go.Proofs Go.Proofs.YtijohhdgecadnaaDoor.Av Go.Proofs.YtijohhdgecadnaaDoor.Sp Go.RowKit
set_option linter.unusedVariables false
set_option linter.unusedSimpArgs false
set_option linter.unusedSectionVars false
set_option maxRecDepth 100000
attribute [local irreducible] Fv Fp

theorem pickL {A B C : Prop} (h : A) (k : B) : (A ∧ B) ∨ C := .inl ⟨h, k⟩
theorem pickR {A B C : Prop} (h : A) (k : B) : C ∨ (A ∧ B) := .inr ⟨h, k⟩
theorem hd_lower0 (s : ByteArray) (h : s.size = 0) : Fv Tryd.prog 29 [.str s] (.str (strL [])) := by
  refine Fv.of_awp Tryd.func29 rfl (by kernel_rfl) rfl (Nat.le_of_ble_eq_true rfl) ?_
  repeat' (conv => whnf
           first
           | (refine And.intro (Or.inl (by kernel_rfl)) ?_)
           | (refine And.intro (by kernel_rfl) ?_)
           | (refine And.intro ⟨by kernel_rfl, by kernel_rfl⟩ ?_)
           | (refine pickR h ?_)
           | (refine cond_f ?_ ?_)
           | (refine ⟨_, ⟨by decide, rfl⟩, ?_⟩)
           | (refine cond_i (fun h => ?_) (fun h => ?_)))
  all_goals (conv => whnf)
  refine Has.ofN 1 ?_
  have e : ([] : List (List G)) = ([] : List UInt8).map (fun b => [G.int IntKind.u8 b.toNat]) := rfl
  repeat' (conv => whnf
           first
           | (refine And.intro (Or.inl (by kernel_rfl)) ?_)
           | (refine And.intro (by kernel_rfl) ?_)
           | (refine And.intro ⟨by kernel_rfl, by kernel_rfl⟩ ?_)
           | (refine ⟨_, e, ?_⟩)
           | (refine cond_f ?_ ?_)
           | (refine ⟨_, ⟨by decide, rfl⟩, ?_⟩)
           | (refine cond_i (fun h => ?_) (fun h => ?_)))
  all_goals (conv => whnf)
  all_goals rfl
theorem hd_lower1 (s : ByteArray) (h0 : 0 < s.size) (h : s.size ≤ 100000000) : Fv Tryd.prog 29 [.str s] (.str (strL (lowL s.data.toList))) := by
  refine Fv.of_awp Tryd.func29 rfl (by kernel_rfl) rfl (Nat.le_of_ble_eq_true rfl) ?_
  repeat' (conv => whnf
           first
           | (refine And.intro (Or.inl (by kernel_rfl)) ?_)
           | (refine And.intro (by kernel_rfl) ?_)
           | (refine And.intro ⟨by kernel_rfl, by kernel_rfl⟩ ?_)
           | (refine pickL h0 ?_)
           | (refine cond_f ?_ ?_)
           | (refine ⟨_, ⟨by decide, rfl⟩, ?_⟩)
           | (refine cond_i (fun h => ?_) (fun h => ?_)))
  all_goals (conv => whnf)
  refine Has.each [0, 3, 8, 9, 10] [] s.size (fun k (b : List UInt8) => b = (s.data.toList.take k).map lowB ++ s.data.toList.drop k) (fun b i =>
    St.of 30 [(0, .str s), (3, .own 7 0 s.size), (8, .own 7 0 s.size), (9, .int .i64 s.size), (10, .int .i64 i)] [] [(7, b.map fun b => [G.int .u8 b.toNat])]) ⟨s.data.toList, 0, rfl, by simp, rfl⟩ (fun k b hk hI => ?_) (fun b hI => ?_)
  · have b0 : decide ((k : Int) < (s.size : Int)) = true := decide_eq_true (by omega)
    have f0 : 0 ≤ (k : Int) ∧ (k : Int) < (s.size : Int) := by omega
    have hl : k < s.data.toList.length := by rw [size_list]; exact hk
    obtain ⟨c, hc⟩ : ∃ c, s.data.toList.getD k 0 = c := ⟨_, rfl⟩
    have hck : s.data.toList[k]? = some c := by rw [← hc, List.getD_eq_getElem?_getD, List.getElem?_eq_getElem hl]; rfl
    have hbl : b.length = s.size := by rw [hI, List.length_append, List.length_map, List.length_take, List.length_drop, size_list]; omega
    have hbk : b[k]? = some c := by
      rw [hI, List.getElem?_append_right (by simp; omega)]
      simp only [List.length_map, List.length_take, Nat.min_eq_left (Nat.le_of_lt hl), Nat.sub_self, List.getElem?_drop, Nat.add_zero]
      exact hck
    have f1 : 0 ≤ (k : Int) ∧ (k : Int) < (s.size : Int) ∧ (b.map fun b => [G.int .u8 b.toNat])[0 + (k : Int).toNat]? = some [G.int .u8 (c.toNat : Int)] := ⟨by omega, by omega, by rw [Nat.zero_add, Int.toNat_natCast, List.getElem?_map, hbk]; rfl⟩
    have w1 : IntKind.i64.wrap ((k : Int) + 1) = (k : Int) + 1 := wrap_i64 (by omega)
    have hAl : ((s.data.toList.take k).map lowB).length = k := by rw [List.length_map, List.length_take]; omega
    have hD : s.data.toList.drop k = c :: s.data.toList.drop (k + 1) := by rw [drop_cons s hk, hc]
    have hT : (s.data.toList.take (k + 1)).map lowB = (s.data.toList.take k).map lowB ++ [lowB c] := by rw [List.take_add_one, hck, List.map_append]; rfl
    have hset : ∀ x, b.set k x = (s.data.toList.take k).map lowB ++ x :: s.data.toList.drop (k + 1) := fun x => by
      rw [hI, hD, List.set_append_right _ _ (by omega), hAl, Nat.sub_self]; rfl
    have hnext : b.set k (lowB c) = (s.data.toList.take (k + 1)).map lowB ++ s.data.toList.drop (k + 1) := by rw [hset, hT, List.append_assoc]; rfl
    have hsame : lowB c = c → b = (s.data.toList.take (k + 1)).map lowB ++ s.data.toList.drop (k + 1) := fun e => by
      rw [← hnext, e, hset, hI, hD]
    have f2 := f1.2.2
    have f3 : (b.map fun b => [G.int .u8 b.toNat])[0 + (k : Int).toNat]? = some [G.int .u8 (c.toNat : Int)] ∧ 0 + Tryd.prog.cellsOf 5 ≤ [G.int .u8 (c.toNat : Int)].length := ⟨f2, by rw [u8c]; exact Nat.le_refl _⟩
    have e3 : 65 ≤ c.toNat ∧ c.toNat ≤ 90 → (b.map fun b => [G.int .u8 b.toNat]).set (0 + (k : Int).toNat) [G.int .u8 (IntKind.u8.wrap (IntKind.u8.wrap ((c.toNat : Int) + 97) - 65))] = (b.set k (lowB c)).map fun b => [G.int .u8 b.toNat] := fun h => by
      have := lowB_eq c
      rw [if_pos h] at this
      rw [Nat.zero_add, Int.toNat_natCast, List.map_set, this, wrap_u8m, wrap_u8m, show ((((c.toNat : Int) + 97) % 256) - 65) % 256 = (c.toNat : Int) + 32 from by omega]
    have lo : ¬ (65 ≤ c.toNat ∧ c.toNat ≤ 90) → lowB c = c := fun h => by unfold lowB; rw [if_neg h]
    refine awp_go ?_
    repeat' (conv => whnf
             first
             | (refine And.intro (Or.inl (by kernel_rfl)) ?_)
             | (refine And.intro (by kernel_rfl) ?_)
             | (refine And.intro ⟨by kernel_rfl, by kernel_rfl⟩ ?_)
             | (refine cond_1 b0 ?_)
             | (refine ⟨f0, ?_⟩)
             | (refine ⟨_, f1, ?_⟩)
             | (refine ⟨_, f3, ?_⟩)
             | (refine ⟨_, f2, ?_⟩)
             | (refine cond_f ?_ ?_)
             | (refine ⟨_, ⟨by decide, rfl⟩, ?_⟩)
             | (refine cond_i (fun h => ?_) (fun h => ?_)))
    all_goals (conv => whnf)
    · have h1 := of_decide_eq_true ‹decide ((c.toNat : Int) ≥ 65) = true›
      have h2 := of_decide_eq_true ‹decide ((c.toNat : Int) ≤ 90) = true›
      refine ⟨b.set k (lowB c), _, ?_, hnext, w1⟩
      rw [← e3 (by omega)]
      rfl
    · have h2 := of_decide_eq_false ‹decide ((c.toNat : Int) ≤ 90) = false›
      exact ⟨b, _, rfl, hsame (lo (by omega)), w1⟩
    · have h2 := of_decide_eq_false ‹decide ((c.toNat : Int) ≥ 65) = false›
      exact ⟨b, _, rfl, hsame (lo (by omega)), w1⟩
  · have b0 : decide ((s.size : Int) < (s.size : Int)) = false := decide_eq_false (by omega)
    rw [show s.data.toList.take s.size = s.data.toList from by rw [← size_list, List.take_length], List.drop_eq_nil_of_le (by rw [size_list]; omega), List.append_nil] at hI
    have hbl : b.length = s.size := by rw [hI, List.length_map, size_list]
    have g1 : 0 + s.size ≤ (b.map fun b => [G.int .u8 b.toNat]).length := by rw [List.length_map]; omega
    have g2 : ((b.map fun b => [G.int .u8 b.toNat]).drop 0).take s.size = b.map fun b => [G.int .u8 b.toNat] := by rw [List.drop_zero, List.take_of_length_le (by rw [List.length_map]; omega)]
    have g3 : (b.map fun b => [G.int .u8 b.toNat]) = b.map (fun b => [G.int .u8 b.toNat]) := rfl
    have e : lowL s.data.toList = b := hI.symm
    rw [e]
    refine awp_go ?_
    repeat' (conv => whnf
             first
             | (refine And.intro (Or.inl (by kernel_rfl)) ?_)
             | (refine And.intro (by kernel_rfl) ?_)
             | (refine And.intro ⟨by kernel_rfl, by kernel_rfl⟩ ?_)
             | (refine cond_0 b0 ?_)
             | (refine ⟨g1, ?_⟩)
             | (rw [g2])
             | (refine ⟨_, g3, ?_⟩)
             | (refine cond_f ?_ ?_)
             | (refine ⟨_, ⟨by decide, rfl⟩, ?_⟩)
             | (refine cond_i (fun h => ?_) (fun h => ?_)))
    all_goals (conv => whnf)
    all_goals rfl
theorem hd_lower (s : ByteArray) (h : s.size ≤ 100000000) : Fv Tryd.prog 29 [.str s] (.str (strL (lowL s.data.toList))) := by
  by_cases h0 : s.size = 0
  · have e : s.data.toList = [] := List.length_eq_zero_iff.1 (by rw [size_list]; exact h0)
    rw [e]; exact hd_lower0 s h0
  · exact hd_lower1 s (by omega) h
theorem strEq_strL (a b : List UInt8) : strEq (strL a) ⟨b.toArray⟩ = decide (a = b) := by
  rw [strEq_eq, ByteArray.toList_eq, ByteArray.toList_eq]
  by_cases h : a = b
  · subst h; simp [strL]
  · simp [strL, h]
theorem hd_kind (s : ByteArray) (h : s.size ≤ 100000000) : Fv Tryd.prog 15 [.str s] (.int .i64 (kindN s.data.toList : Nat)) := by
  have n1 := hd_lower s h
  have k1 : strEq (strL (lowL s.data.toList)) ⟨#[115, 116, 97, 116, 117, 115]⟩ = decide (lowL s.data.toList = wStatus) := strEq_strL _ wStatus
  have k2 : strEq (strL (lowL s.data.toList)) ⟨#[109, 101, 115, 115, 97, 103, 101]⟩ = decide (lowL s.data.toList = wMessage) := strEq_strL _ wMessage
  have k3 : strEq (strL (lowL s.data.toList)) ⟨#[112, 117, 115, 104, 98, 97, 99, 107]⟩ = decide (lowL s.data.toList = wPushback) := strEq_strL _ wPushback
  refine Fv.of_awp Tryd.func15 rfl (by kernel_rfl) rfl (Nat.le_of_ble_eq_true rfl) ?_
  repeat' (conv => whnf
           first
           | (refine And.intro (Or.inl (by kernel_rfl)) ?_)
           | (refine And.intro (by kernel_rfl) ?_)
           | (refine And.intro ⟨by kernel_rfl, by kernel_rfl⟩ ?_)
           | (refine Or.inl ⟨_, n1, ?_⟩)
           | (refine ⟨_, n1, ?_⟩)
           | (refine cond_f ?_ ?_)
           | (refine ⟨_, ⟨by decide, rfl⟩, ?_⟩)
           | (refine cond_i (fun h => ?_) (fun h => ?_)))
  all_goals (conv => whnf)
  all_goals (simp only [k1, k2, k3, decide_eq_true_eq, decide_eq_false_iff_not] at *; unfold kindN; first | (simp [*]; done) | (simp [*]; decide))
end Go.Proofs.YtijohhdgecadnaaDoor.Cn
namespace Go.Proofs.YtijohhdgecadnaaDoor.Cn
open Go Go.Proofs Go.Proofs.YtijohhdgecadnaaDoor.Av Go.Proofs.YtijohhdgecadnaaDoor.Sp
set_option linter.unusedVariables false
set_option linter.unusedSimpArgs false
set_option maxRecDepth 100000


theorem code_names : Fv Tryd.prog 34 [] (.agg (names.map G.str)) := by
  refine Fv.of_awp Tryd.func34 rfl (by kernel_rfl) rfl (Nat.le_of_ble_eq_true rfl) ?_
  conv => whnf
  rfl
theorem code_Right (a : Int) : Fv Tryd.prog 20 [.int .i64 a] (.bool (right a)) := by
  refine Fv.of_awp Tryd.func20 rfl (by kernel_rfl) rfl (Nat.le_of_ble_eq_true rfl) ?_
  repeat' (conv => whnf
           first
           | (refine And.intro (Or.inl (by kernel_rfl)) ?_)
           | (refine And.intro (by kernel_rfl) ?_)
           | (refine And.intro ⟨by kernel_rfl, by kernel_rfl⟩ ?_)
           | (refine Or.inl ⟨_, code_names, ?_⟩)
           | (refine ⟨_, code_names, ?_⟩)
           | (refine cond_f ?_ ?_)
           | (refine ⟨_, ⟨by decide, rfl⟩, ?_⟩)
           | (refine cond_i (fun h => ?_) (fun h => ?_)))
  all_goals (conv => whnf)
  all_goals
    refine bool_eq ?_
    unfold right
    simp only [decide_eq_true_eq, decide_eq_false_iff_not, ge_iff_le] at *
    rw [Bool.eq_iff_iff]
    simp
    omega
theorem ref05_Right (a : Int) : Fv Tryd.prog 32 [.int .i64 a] (.bool (right a)) := by
  refine Fv.of_awp Tryd.func32 rfl (by kernel_rfl) rfl (Nat.le_of_ble_eq_true rfl) ?_
  repeat' (conv => whnf
           first
           | (refine And.intro (Or.inl (by kernel_rfl)) ?_)
           | (refine And.intro (by kernel_rfl) ?_)
           | (refine And.intro ⟨by kernel_rfl, by kernel_rfl⟩ ?_)
           | (refine cond_f ?_ ?_)
           | (refine ⟨_, ⟨by decide, rfl⟩, ?_⟩)
           | (refine cond_i (fun h => ?_) (fun h => ?_)))
  all_goals (conv => whnf)
  all_goals
    refine bool_eq ?_
    unfold right
    simp only [decide_eq_true_eq, decide_eq_false_iff_not, ge_iff_le] at *
    rw [Bool.eq_iff_iff]
    simp
    omega
theorem right_iff (a : Int) : right a = true ↔ 0 ≤ a ∧ a ≤ 16 := by unfold right; simp
theorem clean_right {a : Int} (h : right a = true) : clean a = a := by unfold clean; rw [if_pos ((right_iff a).1 h)]
theorem clean_wrong {a : Int} (h : right a = false) : clean a = 2 := by unfold clean; rw [if_neg (fun h' => by rw [(right_iff a).2 h'] at h; cases h)]
theorem code_Clean (a : Int) : Fv Tryd.prog 9 [.int .i64 a] (.int .i64 (clean a)) := by
  refine Fv.of_awp Tryd.func9 rfl (by kernel_rfl) rfl (Nat.le_of_ble_eq_true rfl) ?_
  repeat' (conv => whnf
           first
           | (refine And.intro (Or.inl (by kernel_rfl)) ?_)
           | (refine And.intro (by kernel_rfl) ?_)
           | (refine And.intro ⟨by kernel_rfl, by kernel_rfl⟩ ?_)
           | (refine Or.inl ⟨_, code_Right _, ?_⟩)
           | (refine ⟨_, code_Right _, ?_⟩)
           | (refine cond_f ?_ ?_)
           | (refine ⟨_, ⟨by decide, rfl⟩, ?_⟩)
           | (refine cond_i (fun h => ?_) (fun h => ?_)))
  all_goals (conv => whnf)
  all_goals
    refine int_eq ?_
    simp only [Bool.not_eq_true', Bool.not_eq_false'] at *
    first | exact (clean_right ‹_›).symm | exact (clean_wrong ‹_›).symm
theorem ref05_Clean (a : Int) : Fv Tryd.prog 18 [.int .i64 a] (.int .i64 (clean a)) := by
  refine Fv.of_awp Tryd.func18 rfl (by kernel_rfl) rfl (Nat.le_of_ble_eq_true rfl) ?_
  repeat' (conv => whnf
           first
           | (refine And.intro (Or.inl (by kernel_rfl)) ?_)
           | (refine And.intro (by kernel_rfl) ?_)
           | (refine And.intro ⟨by kernel_rfl, by kernel_rfl⟩ ?_)
           | (refine Or.inl ⟨_, ref05_Right _, ?_⟩)
           | (refine ⟨_, ref05_Right _, ?_⟩)
           | (refine cond_f ?_ ?_)
           | (refine ⟨_, ⟨by decide, rfl⟩, ?_⟩)
           | (refine cond_i (fun h => ?_) (fun h => ?_)))
  all_goals (conv => whnf)
  all_goals
    refine int_eq ?_
    first | exact (clean_right ‹_›).symm | exact (clean_wrong ‹_›).symm
end Go.Proofs.YtijohhdgecadnaaDoor.Cn
namespace Go.Proofs.YtijohhdgecadnaaDoor.Cn
open Go Go.Proofs Go.Proofs.YtijohhdgecadnaaDoor.Av Go.Proofs.YtijohhdgecadnaaDoor.Sp Go.RowKit
set_option linter.unusedVariables false
set_option linter.unusedSimpArgs false
set_option linter.unusedSectionVars false
set_option maxRecDepth 100000
attribute [local irreducible] Fv Fp

theorem dig_all_take {s : ByteArray} {k : Nat} (hk : k < s.size) : (s.data.toList.take (k + 1)).all isDig = ((s.data.toList.take k).all isDig && isDig (s.data.toList.getD k 0)) ∧ decL (s.data.toList.take (k + 1)) = 10 * decL (s.data.toList.take k) + ((s.data.toList.getD k 0).toNat - 48) := by
  have hl : k < s.data.toList.length := by rw [size_list]; exact hk
  have e : s.data.toList.take (k + 1) = s.data.toList.take k ++ [s.data.toList.getD k 0] := by
    rw [List.take_add_one, List.getD_eq_getElem?_getD, List.getElem?_eq_getElem hl]; rfl
  rw [e, decL_snoc, List.all_append]; simp
theorem all_false {l : List UInt8} {k : Nat} (hk : k < l.length) (h : isDig (l.getD k 0) = false) : l.all isDig = false := by
  rw [List.all_eq_false]
  refine ⟨l[k], List.getElem_mem hk, ?_⟩
  rw [List.getD_eq_getElem?_getD, List.getElem?_eq_getElem hk] at h
  simpa using h
theorem hd_number (s : ByteArray) (most : Nat) (hm : most ≤ 9) : Fv Tryd.prog 30 [.str s, .int .i64 (most : Nat)] (.int .i64 (numI s.data.toList most)) := by
  by_cases h0 : s.size = 0
  · have e : s.data.toList = [] := List.length_eq_zero_iff.1 (by rw [size_list]; exact h0)
    have es : s = strL [] := by rw [← strL_eq s, e]
    have b1 : strEq s ⟨#[]⟩ = true := by rw [es]; exact strEq_self _
    rw [e]
    refine Fv.of_awp Tryd.func30 rfl (by kernel_rfl) rfl (Nat.le_of_ble_eq_true rfl) ?_
    repeat' (conv => whnf
             first
             | (refine And.intro (Or.inl (by kernel_rfl)) ?_)
             | (refine And.intro (by kernel_rfl) ?_)
             | (refine And.intro ⟨by kernel_rfl, by kernel_rfl⟩ ?_)
             | (refine cond_1 b1 ?_)
             | (refine cond_f ?_ ?_)
             | (refine ⟨_, ⟨by decide, rfl⟩, ?_⟩)
             | (refine cond_i (fun h => ?_) (fun h => ?_)))
    all_goals (conv => whnf)
    all_goals rfl
  have b1 : strEq s ⟨#[]⟩ = false := by
    have := strEq_strL s.data.toList []
    rw [strL_eq] at this
    have h2 : s.data.toList ≠ [] := fun e => h0 (by rw [← size_list, e]; rfl)
    rw [decide_eq_false h2] at this
    exact this
  by_cases h1 : most < s.size
  · have b2 : decide ((s.size : Int) > (most : Int)) = true := decide_eq_true (by omega)
    have e : numI s.data.toList most = -1 := by unfold numI; rw [if_pos (.inr (.inl (by rw [size_list]; exact h1)))]
    rw [e]
    refine Fv.of_awp Tryd.func30 rfl (by kernel_rfl) rfl (Nat.le_of_ble_eq_true rfl) ?_
    repeat' (conv => whnf
             first
             | (refine And.intro (Or.inl (by kernel_rfl)) ?_)
             | (refine And.intro (by kernel_rfl) ?_)
             | (refine And.intro ⟨by kernel_rfl, by kernel_rfl⟩ ?_)
             | (refine cond_0 b1 ?_)
             | (refine cond_1 b2 ?_)
             | (refine cond_f ?_ ?_)
             | (refine ⟨_, ⟨by decide, rfl⟩, ?_⟩)
             | (refine cond_i (fun h => ?_) (fun h => ?_)))
    all_goals (conv => whnf)
    all_goals rfl
  have b2 : decide ((s.size : Int) > (most : Int)) = false := decide_eq_false (by omega)
  refine Fv.of_awp Tryd.func30 rfl (by kernel_rfl) rfl (Nat.le_of_ble_eq_true rfl) ?_
  repeat' (conv => whnf
           first
           | (refine And.intro (Or.inl (by kernel_rfl)) ?_)
           | (refine And.intro (by kernel_rfl) ?_)
           | (refine And.intro ⟨by kernel_rfl, by kernel_rfl⟩ ?_)
           | (refine cond_0 b1 ?_)
           | (refine cond_0 b2 ?_)
           | (refine cond_f ?_ ?_)
           | (refine ⟨_, ⟨by decide, rfl⟩, ?_⟩)
           | (refine cond_i (fun h => ?_) (fun h => ?_)))
  all_goals (conv => whnf)
  refine Has.each [0, 5, 16, 17] [] s.size (fun k (n : Int) => (s.data.toList.take k).all isDig = true ∧ n = (decL (s.data.toList.take k) : Nat)) (fun n i => St.of 40 [(0, .str s), (5, .int .i64 n), (16, .int .i64 s.size), (17, .int .i64 i)] [] []) ⟨0, 0, rfl, ⟨rfl, rfl⟩, rfl⟩ (fun k n hk hI => ?_) (fun n hI => ?_)
  · obtain ⟨hall, hn⟩ := hI
    obtain ⟨hA, hD⟩ := dig_all_take hk
    have hlt := decL_lt _ hall
    rw [List.length_take, size_list, Nat.min_eq_left (by omega)] at hlt
    have hp : 10 ^ k ≤ 10 ^ 9 := Nat.pow_le_pow_right (by omega) (by omega)
    have hc : byteAt s k = ((s.data.toList.getD k 0).toNat : Int) := rfl
    have hcl := (s.data.toList.getD k 0).toNat_lt
    have b0 : decide ((k : Int) < (s.size : Int)) = true := decide_eq_true (by omega)
    have f0 : 0 ≤ (k : Int) ∧ (k : Int) < (s.size : Int) := by omega
    have w1 : IntKind.i64.wrap ((k : Int) + 1) = (k : Int) + 1 := wrap_i64 (by omega)
    cases hd : isDig (s.data.toList.getD k 0) with
    | true =>
      have hd' := of_decide_eq_true hd
      have t1 : decide (byteAt s k < 48) = false := decide_eq_false (by omega)
      have t2 : decide (byteAt s k > 57) = false := decide_eq_false (by omega)
      refine awp_go ?_
      repeat' (conv => whnf
               first
               | (refine And.intro (Or.inl (by kernel_rfl)) ?_)
               | (refine And.intro (by kernel_rfl) ?_)
               | (refine And.intro ⟨by kernel_rfl, by kernel_rfl⟩ ?_)
               | (refine cond_1 b0 ?_)
               | (refine ⟨f0, ?_⟩)
               | (refine cond_0 t1 ?_)
               | (refine cond_0 t2 ?_)
               | (refine cond_f ?_ ?_)
               | (refine ⟨_, ⟨by decide, rfl⟩, ?_⟩)
               | (refine cond_i (fun h => ?_) (fun h => ?_)))
      all_goals (conv => whnf)
      refine ⟨_, _, rfl, ⟨by rw [hA, hall, hd]; rfl, ?_⟩, w1⟩
      rw [hD, hn, show byteAt s (Int.toNat (k : Int)) = ((s.data.toList.getD k 0).toNat : Int) from rfl, wrap_u8m, wrap_i64 (n := 10 * _) (by omega), wrap_i64 (n := _ % 256) (by omega), wrap_i64 (by omega)]
      omega
    | false =>
      have hd' := of_decide_eq_false hd
      have e : numI s.data.toList most = -1 := by unfold numI; rw [if_pos (.inr (.inr (all_false (by rw [size_list]; exact hk) hd)))]
      rw [e]
      refine awp_go ?_
      repeat' (conv => whnf
               first
               | (refine And.intro (Or.inl (by kernel_rfl)) ?_)
               | (refine And.intro (by kernel_rfl) ?_)
               | (refine And.intro ⟨by kernel_rfl, by kernel_rfl⟩ ?_)
               | (refine cond_1 b0 ?_)
               | (refine ⟨f0, ?_⟩)
               | (refine cond_f ?_ ?_)
               | (refine ⟨_, ⟨by decide, rfl⟩, ?_⟩)
               | (refine cond_i (fun h => ?_) (fun h => ?_)))
      all_goals (conv => whnf)
      all_goals first
        | rfl
        | (exfalso
           have a1 : ¬ byteAt s k < 48 := by refine of_decide_eq_false ?_; assumption
           have a2 : ¬ byteAt s k > 57 := by refine of_decide_eq_false ?_; assumption
           omega)
  · obtain ⟨hall, hn⟩ := hI
    rw [show s.data.toList.take s.size = s.data.toList from by rw [← size_list, List.take_length]] at hall hn
    have e : numI s.data.toList most = n := by
      unfold numI
      rw [if_neg, hn]
      rintro (h2 | h2 | h2)
      · exact h0 (by rw [← size_list, h2]; rfl)
      · rw [size_list] at h2; omega
      · rw [hall] at h2; cases h2
    rw [e]
    have b0 : decide ((s.size : Int) < (s.size : Int)) = false := decide_eq_false (by omega)
    refine awp_go ?_
    repeat' (conv => whnf
             first
             | (refine And.intro (Or.inl (by kernel_rfl)) ?_)
             | (refine And.intro (by kernel_rfl) ?_)
             | (refine And.intro ⟨by kernel_rfl, by kernel_rfl⟩ ?_)
             | (refine cond_0 b0 ?_)
             | (refine cond_f ?_ ?_)
             | (refine ⟨_, ⟨by decide, rfl⟩, ?_⟩)
             | (refine cond_i (fun h => ?_) (fun h => ?_)))
    all_goals (conv => whnf)
    all_goals rfl
end Go.Proofs.YtijohhdgecadnaaDoor.Cn
namespace Go.Proofs.YtijohhdgecadnaaDoor.Cn
open Go Go.Proofs Go.Proofs.YtijohhdgecadnaaDoor.Av Go.Proofs.YtijohhdgecadnaaDoor.Sp Go.RowKit
set_option linter.unusedVariables false
set_option linter.unusedSimpArgs false
set_option linter.unusedSectionVars false
set_option maxRecDepth 100000
attribute [local irreducible] Fv Fp

theorem if_iff {α : Type} {p q : Prop} [Decidable p] [Decidable q] {a b : α} (h : p ↔ q) : (if p then a else b) = if q then a else b := by
  by_cases hp : p
  · rw [if_pos hp, if_pos (h.1 hp)]
  · rw [if_neg hp, if_neg (fun hq => hp (h.2 hq))]
theorem numI_len (l : List UInt8) (m : Nat) (hm : m ≤ 9) (h : 0 ≤ numI l m) : numI l m < 1000000000 := by
  unfold numI at *
  split at h
  · omega
  · rename_i hq
    rw [if_neg hq]
    have h1 : ¬ m < l.length := fun e => hq (.inr (.inl e))
    have h2 : l.all isDig = true := by
      cases hx : l.all isDig with
      | true => rfl
      | false => exact absurd (.inr (.inr hx)) hq
    have := decL_lt l h2
    have hp : 10 ^ l.length ≤ 10 ^ 9 := Nat.pow_le_pow_right (by omega) (by omega)
    omega
theorem hd_value2 (s : ByteArray) (c p : Int) (m : ByteArray) : Fp Tryd.prog 16 [.ptr 0 0, .int .i64 2, .str s] [[.int .i64 c, .str m, .int .i64 p]] [] (.tup [], [some [.int .i64 c, .str m, .int .i64 (numI s.data.toList 7)]], []) := by
  have n1 := hd_number s 7 (by omega)
  refine Fp.of_awp Tryd.func16 rfl (by kernel_rfl) (Nat.le_of_ble_eq_true rfl) ?_
  repeat' (conv => whnf
           first
           | (refine And.intro (Or.inl (by kernel_rfl)) ?_)
           | (refine And.intro (by kernel_rfl) ?_)
           | (refine And.intro ⟨by kernel_rfl, by kernel_rfl⟩ ?_)
           | (refine Or.inl ⟨_, n1, ?_⟩)
           | (refine ⟨_, n1, ?_⟩)
           | (refine cond_f ?_ ?_)
           | (refine ⟨_, ⟨by decide, rfl⟩, ?_⟩)
           | (refine cond_i (fun h => ?_) (fun h => ?_)))
  all_goals (conv => whnf)
  all_goals rfl
theorem hd_value1 (s : ByteArray) (c p : Int) (m : ByteArray) (h : s.size ≤ 1000000) : Fp Tryd.prog 16 [.ptr 0 0, .int .i64 1, .str s] [[.int .i64 c, .str m, .int .i64 p]] [] (.tup [], [some [.int .i64 c, .str (strL (unqL s.data.toList)), .int .i64 p]], []) := by
  have n1 := hd_Unquote s h
  refine Fp.of_awp Tryd.func16 rfl (by kernel_rfl) (Nat.le_of_ble_eq_true rfl) ?_
  repeat' (conv => whnf
           first
           | (refine And.intro (Or.inl (by kernel_rfl)) ?_)
           | (refine And.intro (by kernel_rfl) ?_)
           | (refine And.intro ⟨by kernel_rfl, by kernel_rfl⟩ ?_)
           | (refine Or.inl ⟨_, n1, ?_⟩)
           | (refine ⟨_, n1, ?_⟩)
           | (refine cond_f ?_ ?_)
           | (refine ⟨_, ⟨by decide, rfl⟩, ?_⟩)
           | (refine cond_i (fun h => ?_) (fun h => ?_)))
  all_goals (conv => whnf)
  all_goals rfl
theorem hd_value0 (s : ByteArray) (c p : Int) (m : ByteArray) : Fp Tryd.prog 16 [.ptr 0 0, .int .i64 0, .str s] [[.int .i64 c, .str m, .int .i64 p]] [] (.tup [], [some [.int .i64 (codeI s.data.toList), .str m, .int .i64 p]], []) := by
  have n1 := hd_number s 2 (by omega)
  have n2 := code_Right (numI s.data.toList 2)
  have hc : byteAt s 0 = ((s.data.toList.getD 0 0).toNat : Int) := rfl
  have e48 : s.data.toList.getD 0 0 = 48 ↔ byteAt s 0 = 48 := by
    rw [hc]
    constructor
    · intro h; rw [h]; rfl
    · intro h; exact UInt8.toNat_inj.1 (by have : (48 : UInt8).toNat = 48 := rfl; omega)
  have eC : codeI s.data.toList = if right (numI s.data.toList 2) = true ∧ ¬ ((s.size : Int) > 1 ∧ byteAt s 0 = 48) then numI s.data.toList 2 else 2 := by
    unfold codeI
    refine if_iff ?_
    unfold right
    rw [size_list]
    simp only [Bool.and_eq_true, decide_eq_true_eq]
    constructor
    · rintro ⟨a, b, c⟩; exact ⟨⟨a, b⟩, fun h => c ⟨by omega, e48.2 h.2⟩⟩
    · rintro ⟨⟨a, b⟩, c⟩; exact ⟨a, b, fun h => c ⟨by omega, e48.1 h.2⟩⟩
  rw [eC]
  have f0 : decide ((s.size : Int) > 1) = true → 0 ≤ (0 : Int) ∧ (0 : Int) < (s.size : Int) := fun h => by have := of_decide_eq_true h; omega
  refine Fp.of_awp Tryd.func16 rfl (by kernel_rfl) (Nat.le_of_ble_eq_true rfl) ?_
  repeat' (conv => whnf
           first
           | (refine And.intro (Or.inl (by kernel_rfl)) ?_)
           | (refine And.intro (by kernel_rfl) ?_)
           | (refine And.intro ⟨by kernel_rfl, by kernel_rfl⟩ ?_)
           | (refine Or.inl ⟨_, n1, ?_⟩)
           | (refine ⟨_, n1, ?_⟩)
           | (refine Or.inl ⟨_, n2, ?_⟩)
           | (refine ⟨_, n2, ?_⟩)
           | (refine ⟨f0 (by assumption), ?_⟩)
           | (refine cond_f ?_ ?_)
           | (refine ⟨_, ⟨by decide, rfl⟩, ?_⟩)
           | (refine cond_i (fun h => ?_) (fun h => ?_)))
  all_goals (conv => whnf)
  · have h1 := ‹(!right (numI s.data.toList 2)) = true›
    rw [if_neg (fun e => by rw [e.1] at h1; cases h1)]
    rfl
  · have h1 := of_decide_eq_true ‹decide ((s.size : Int) > 1) = true›
    have h2 : byteAt s 0 = 48 := by simpa using ‹(byteAt s (Int.toNat 0) == 48) = true›
    rw [if_neg (fun e => e.2 ⟨h1, h2⟩)]
    rfl
  · have h1 : right (numI s.data.toList 2) = true := by simpa using ‹(!right (numI s.data.toList 2)) = false›
    have h2 : ¬ byteAt s 0 = 48 := by simpa using ‹(byteAt s (Int.toNat 0) == 48) = false›
    rw [if_pos ⟨h1, fun e => h2 e.2⟩]
    rfl
  · have h1 : right (numI s.data.toList 2) = true := by simpa using ‹(!right (numI s.data.toList 2)) = false›
    have h2 := of_decide_eq_false ‹decide ((s.size : Int) > 1) = false›
    rw [if_pos ⟨h1, fun e => h2 e.1⟩]
    rfl
end Go.Proofs.YtijohhdgecadnaaDoor.Cn
