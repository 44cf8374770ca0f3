/- More operations: rows made, stored to and cut; bytes and strings; pointers compared. No condition. -/
import Derived.Test.YtcihkmnolagdlaaDoorAv7b
import Derived.Laws.MakeOwn
import Derived.Laws.BytesArg
import Derived.Laws.IdiomStrings
import Derived.LaidEqlPtr
namespace Go.Proofs.YtcihkmnolagdlaaDoor.Av
open Go Go.RowKit
set_option linter.unusedVariables false
set_option linter.unusedSimpArgs false

section
variable {P : Program} {C : Cx} {F : Fd} {st : St} {a : Act} {w : World}

/-- A store into an own row's element. -/
theorem Inv.storeRow {k : Nat} {xs : List (List G)} {w' : World} (h : Inv C F st a w) (hxs : st.rows[k]? = some (some xs)) {B s sz n : Nat} {vs : List Value} {T : TypeId} {fz : Nat × Nat} (k1 : C.row k = some (some (B, s, sz, n)))
    (k3 : w.heap[B]? = some (.cells ⟨vs⟩ T fz)) (k4 : s + n * sz ≤ vs.length) (k5 : 0 < xs.length ∧ xs.length ≤ n) (k6 : ∀ o, o < vs.length → ¬ (fz.1 ≤ o ∧ o < fz.2)) (k6b : ∀ v ∈ vs, v.oneCell' = true)
    (k7 : ∀ r ∈ xs, r.length = sz ∧ ∀ g ∈ r, g.closed0 = true) (k8 : ∀ (i : Nat) r (j : Nat) g v, xs[i]? = some r → r[j]? = some g → vs[s + i * sz + j]? = some v → Rep C w g v)
    {i off : Nat} {row us : List G} {ws : List Value} (hrow : xs[i]? = some row) (hle : off + us.length ≤ row.length) (hl : ws.length = us.length) (hcl : ∀ g ∈ us, g.closed0 = true) (h1 : ∀ v ∈ ws, v.oneCell' = true)
    (hr : ∀ (j : Nat) g v, us[j]? = some g → ws[j]? = some v → Rep C w g v) (ho : Only w w' B (blit vs (s + i * sz + off) ws) T fz) : Inv C F (st.setRow k (xs.set i (blit row off us))) a w' := by
  have he : C.ex B := h.mem.ltR k1
  have hk := ho.keeps he
  have keep : ∀ g v, Rep C w g v → Rep C w' g v := fun g v hg => hg.keep hk (fun _ _ h => h) (fun _ _ h => h) (fun _ _ h => h)
  have hkl : k < st.rows.length := (List.getElem?_eq_some_iff.1 hxs).1
  have hil : i < xs.length := (List.getElem?_eq_some_iff.1 hrow).1
  have hrl : row.length = sz := (k7 row (List.mem_of_getElem? hrow)).1
  have hsp : s + i * sz + off + ws.length ≤ vs.length := by
    have : (i + 1) * sz ≤ n * sz := Nat.mul_le_mul_right _ (by omega)
    rw [Nat.succ_mul] at this; omega
  refine ⟨h.nd, h.sz, fun j g v hg hv => keep g v (h.slots j g v hg hv), ⟨fun x cs' hx => ?_, fun x ys hx => ?_, h.mem.domB, fun x X hx => ?_, h.mem.bb, h.mem.rr, h.mem.br, fun X hX => by rw [ho.size]; exact h.mem.lt X hX⟩, ho.fr h.fr (h.tr k B s sz n k1), h.ex0, h.exn, h.t0, h.tb, h.tr, h.fb⟩
  · obtain ⟨X, vs', T', q1, q2, q3, q4, q5, q6⟩ := h.mem.box x cs' hx
    have hne : X ≠ B := fun e' => h.mem.br x k B s sz n (by rw [← e']; exact q1) k1
    exact ⟨X, vs', T', q1, q2, by rw [ho.block X hne]; exact q3, q4, q5, fun j g v hg hv => ⟨(q6 j g v hg hv).1, keep _ _ (q6 j g v hg hv).2⟩⟩
  · by_cases e : x = k
    · subst e
      simp only [St.setRow, List.getElem?_set_self hkl, Option.some.injEq] at hx
      subst hx
      refine .inr <| .inl ⟨B, s, sz, n, _, T, fz, k1, he, ho.here, by rw [blit_length]; exact k4, by simpa using k5, fun o ho' => k6 o (by rwa [blit_length] at ho'), fun v hv => ?_, fun r hm => ?_, fun i' r j g v a1 a2 a3 => ?_⟩
      · obtain ⟨j, hj⟩ := List.mem_iff_getElem?.1 hv
        rw [blit_get _ _ _ _ hsp] at hj
        split at hj
        · exact h1 v (List.mem_of_getElem? hj)
        · exact k6b v (List.mem_of_getElem? hj)
      · rcases List.mem_or_eq_of_mem_set hm with hm | rfl
        · exact k7 r hm
        · refine ⟨by rw [blit_length]; exact hrl, fun g hg => ?_⟩
          obtain ⟨j, hj⟩ := List.mem_iff_getElem?.1 hg
          rw [blit_get _ _ _ _ (by omega)] at hj
          split at hj
          · exact hcl g (List.mem_of_getElem? hj)
          · exact (k7 row (List.mem_of_getElem? hrow)).2 g (List.mem_of_getElem? hj)
      · rw [blit_get _ _ _ _ hsp] at a3
        rw [List.getElem?_set] at a1
        by_cases e : i = i'
        · subst e
          rw [if_pos rfl, if_pos hil] at a1
          cases a1
          rw [blit_get _ _ _ _ (by omega)] at a2
          by_cases hc : off ≤ j ∧ j < off + us.length
          · rw [if_pos hc] at a2
            rw [if_pos (by omega), show s + i * sz + j - (s + i * sz + off) = j - off from by omega] at a3
            exact keep _ _ (hr _ g v a2 a3)
          · rw [if_neg hc] at a2
            rw [if_neg (by omega)] at a3
            exact keep _ _ (k8 i row j g v hrow a2 a3)
        · rw [if_neg e] at a1
          have hj : j < sz := by rw [← (k7 r (List.mem_of_getElem? a1)).1]; exact (List.getElem?_eq_some_iff.1 a2).1
          rw [if_neg (by
            intro hc
            rcases Nat.lt_or_gt_of_ne e with hlt | hlt
            · have : (i + 1) * sz ≤ i' * sz := Nat.mul_le_mul_right _ hlt
              rw [Nat.succ_mul] at this; omega
            · have : (i' + 1) * sz ≤ i * sz := Nat.mul_le_mul_right _ hlt
              rw [Nat.succ_mul] at this; omega)] at a3
          exact keep _ _ (k8 i' r j g v a1 a2 a3)
    · simp only [St.setRow, List.getElem?_set_ne (fun e' => e e'.symm)] at hx
      rcases h.mem.row x ys hx with q1 | ⟨X, s', sz', n', vs', T', fz', q1, q2, q3, q4, q5, q6, q6b, q7, q8⟩ | km
      · exact .inl q1
      · have hne : X ≠ B := fun e' => e (h.mem.rr x k X s' sz' n' s sz n q1 (by rw [e']; exact k1))
        exact .inr (.inl ⟨X, s', sz', n', vs', T', fz', q1, q2, by rw [ho.block X hne]; exact q3, q4, q5, q6, q6b, q7, fun i r j g v a1 a2 a3 => keep _ _ (q8 i r j g v a1 a2 a3)⟩)
      · exact .inr (.inr (km.move (fun q h => h) (fun _ _ _ h => h) (fun X q hq => ho.block X (fun e' => e (h.mem.rr x k X _ _ _ s sz n hq (by rw [e']; exact k1)))) (fun g u _ hu => keep _ _ hu)))
  · by_cases e : x = k
    · subst e; exact ⟨_, by simp only [St.setRow]; exact List.getElem?_set_self hkl⟩
    · obtain ⟨ys, hys⟩ := h.mem.domR x X hx
      exact ⟨ys, by simp only [St.setRow, List.getElem?_set_ne (fun e' => e e'.symm)]; exact hys⟩

def storeW (P : Program) (t : TypeId) (st : St) (kk i off : Nat) (x : G) (k : St → Prop) : Prop :=
  match P.underlying t, st.rows.getD kk none with
  | some _, some xs => ∃ row, (xs[i]? = some row ∧ off + P.cellsOf t ≤ row.length) ∧ bif okReg x && (x.cells.length == P.cellsOf t) && x.cells.all G.closed0 then k (st.setRow kk (xs.set i (blit row off x.cells))) else False
  | _, _ => False
theorem storeW_sound {t : TypeId} {kk i off : Nat} {x : G} {k : St → Prop} (h : storeW P t st kk i off x k) (hi : Inv C F st a w) {u v : Value} (hp : Rep C w (.eltw kk i off) u) (hx : Rep C w x v) :
    ∃ st' w', k st' ∧ (Instr.storeAt t u v).run P w = .ok () w' ∧ Inv C F st' a w' := by
  unfold storeW at h
  split at h
  · rename_i dd xs hu hxs
    obtain ⟨row, ⟨hrow, hle⟩, h⟩ := h
    cases hc : okReg x && (x.cells.length == P.cellsOf t) && x.cells.all G.closed0 with
    | false => rw [hc] at h; exact h.elim
    | true =>
      rw [hc] at h
      simp only [Bool.and_eq_true, beq_iff_eq, List.all_eq_true] at hc
      obtain ⟨⟨c1, c2⟩, c3⟩ := hc
      obtain ⟨r1, r2, r3⟩ := hx.cells (okReg_cases c1)
      cases hp with
      | eltw _ _ _ B s sz n hr hn0 =>
        rcases hi.mem.row2 (rowsOf hxs) (fun km => km.np hr hn0) with ⟨k1, rfl⟩ | ⟨B', s', z', n', vs, T, fz, k1, k2, k3, k4, k5, k6, k6b, k7, k8⟩
        · simp at hrow
        · rw [hr] at k1; cases k1
          have hil : i < xs.length := (List.getElem?_eq_some_iff.1 hrow).1
          have hrl : row.length = sz := (k7 row (List.mem_of_getElem? hrow)).1
          obtain ⟨w', hw, ho⟩ := run_storeVar_on (P := P) k3 hu (v := v) (o := s + i * sz + off) (by rw [r1, c2]) (by
            have : (i + 1) * sz ≤ n * sz := Nat.mul_le_mul_right _ (by omega)
            rw [Nat.succ_mul] at this; omega) r2 k6
          exact ⟨_, w', h, by simpa [Instr.storeAt, Instr.sureAddr] using hw, hi.storeRow (rowsOf hxs) hr k3 k4 k5 k6 k6b k7 k8 hrow (by omega) r1 c3 r2 (fun j g v hg hv => (r3 j g v hg hv).2) ho⟩
  · exact h.elim

def makeP (P : Program) (d : Nat) (t : TypeId) (l c : G) (st : St) (k : G → St → Prop) : Prop :=
  match P.underlying t, l, c with
  | some (.slice e), .int _ n, .int _ m => match zeroCells P e with
    | some zc => bif zc.all G.closed0 && Nat.blt 0 (P.cellsOf e) && Nat.blt d st.rows.length then (0 ≤ n ∧ n = m ∧ n * P.bytesOf e ≤ 281474976710656 ∧ n ≤ 281474976710656) ∧ k (.own d 0 n.toNat) ((st.freeRow d).setRow d (List.replicate n.toNat zc)) else False
    | none => False
  | _, _, _ => False
theorem makeP_sound {d : Nat} {t : TypeId} {l c : G} {k : G → St → Prop} (h : makeP P d t l c st k) (hi : Inv C F st a w) {u v : Value} (hl : Rep C w l u) (hc : Rep C w c v) :
    ∃ z w', (Instr.makeSlice t u v).run P w = .ok z w' ∧ After F k a z w' := by
  unfold makeP at h
  split at h
  · rename_i e k1 n k2 m hu
    split at h
    · rename_i zc hz
      cases hq : zc.all G.closed0 && Nat.blt 0 (P.cellsOf e) && Nat.blt d st.rows.length with
      | false => rw [hq] at h; exact h.elim
      | true =>
        rw [hq] at h
        simp only [Bool.and_eq_true, List.all_eq_true] at hq
        obtain ⟨⟨q1, q2⟩, q3⟩ := hq
        have q2 := Nat.le_of_ble_eq_true q2
        have q3 := Nat.le_of_ble_eq_true q3
        obtain ⟨⟨n0, rfl, n1, n2⟩, h⟩ := h
        obtain rfl := hl.int_inv
        obtain rfl := hc.int_inv
        obtain ⟨z, z1, z2, z3, z4, z5⟩ := zeroCells_sound hz w
        -- the type's facts
        unfold zeroCells at hz
        split at hz
        · rename_i ii hii
          split at hz
          · rename_i zz hzz
            have hbytes : P.bytesOf e = ii.bytes := by simp [Program.bytesOf, hii]
            have hsize : P.cellsOf e = ii.size := by simp [Program.cellsOf, hii]
            have hrun := run_make w t e ii zz hu hii hzz k1 k2 n n n0 (Int.le_refl _) (by rw [hbytes] at n1; rw [Int.mul_comm]; exact n1) (by omega)
            obtain ⟨z', zr⟩ : ∃ z', (zeroValue e).run P w = .ok z' w ∧ z' = zz := ⟨zz, by simp [zeroValue, hii, hzz, typeInfo], rfl⟩
            rw [zr.2] at zr
            rw [zr.1] at z1
            cases z1
            have hzs : z.cells.size = P.cellsOf e := by rw [← Array.length_toList, z2, z3]
            obtain ⟨C1, hI1, hk1, hbx, hex, hrw, _⟩ := hi.freeRow d
            have hlt1 : d < (st.freeRow d).rows.length := by rw [freeRow_len]; exact q3
            rcases Int.lt_or_eq_of_le n0 with hpos | rfl
            · have hnp : 0 < n.toNat := by omega
              obtain ⟨C2, hI2, hk2⟩ := hI1.newRow (k := d) hk1 hlt1 (sz := P.cellsOf e) (n := n.toNat) (vs := (madeCells z.cells (n.toNat * ii.size)).toList) (T := e) (fz := (0, 0)) (xs := List.replicate n.toNat zc)
                (by rw [Array.length_toList, size_madeCells, hsize]; exact Nat.le_refl _) ⟨by rw [List.length_replicate]; exact hnp, by rw [List.length_replicate]; exact Nat.le_refl _⟩
                (fun v hv => by
                  obtain ⟨j, hj⟩ := List.mem_iff_getElem?.1 hv
                  have hjl : j < n.toNat * ii.size := by have := (List.getElem?_eq_some_iff.1 hj).1; rwa [Array.length_toList, size_madeCells] at this
                  simp [madeCells, hjl] at hj
                  have hm : j % z.cells.size < z.cells.size := Nat.mod_lt _ (by omega)
                  rw [getElem!_pos z.cells _ hm] at hj
                  exact z4 v (by rw [← hj]; simp))
                (fun o ho => by simp) (fun r hr => by
                  rw [List.eq_of_mem_replicate hr]
                  exact ⟨z3, fun g hg => q1 g hg⟩)
                (fun i r j g v a1 a2 a3 => by
                  have hr : r = zc := List.eq_of_mem_replicate (List.mem_of_getElem? a1)
                  subst hr
                  have hi' : i < n.toNat := by have := (List.getElem?_eq_some_iff.1 a1).1; simpa using this
                  have hj : j < P.cellsOf e := by rw [← z3]; exact (List.getElem?_eq_some_iff.1 a2).1
                  have hm0 := mul_lt hi' hj
                  have hb : i * P.cellsOf e + j < n.toNat * ii.size := by rw [← hsize]; exact hm0
                  simp [madeCells, hb] at a3
                  have e1 : (i * P.cellsOf e + j) % z.cells.size = j := by rw [hzs, Nat.mul_comm, Nat.mul_add_mod, Nat.mod_eq_of_lt hj]
                  rw [e1, getElem!_pos z.cells _ (by omega)] at a3
                  exact (z5 C1 w j g v a2 (by rw [← a3]; simp)).2)
              refine ⟨_, _, hrun, C2, _, _, h, hI2, ?_⟩
              have := Rep.own (C := C2) (w := w.alloc (.cells (madeCells z.cells (n.toNat * ii.size)) e)) d 0 n.toNat w.heap.size 0 (P.cellsOf e) n.toNat ⟨w.heap.size, 0, none⟩ hk2 (by omega) ⟨fun _ => by simp, rfl, rfl⟩ hnp
              simpa using this
            · have hI1' := hI1.lt_alloc (.cells (madeCells z.cells ((0 : Int).toNat * ii.size)) e)
              obtain ⟨C2, hI2, hk2, _⟩ := hI1'.addNil (k := d) hk1 hlt1
              exact ⟨_, _, hrun, C2, _, _, h, hI2, .ownnil d _ hk2⟩
          · cases hz
        · cases hz
    · exact h.elim
  · exact h.elim

/-! Cutting own rows, and to nothing. -/
def sliceO (P : Program) (t : TypeId) (st : St) (kk off len : Nat) (lo hi : Option G) (k : G → Prop) : Prop :=
  match P.underlying t, st.rows.getD kk none with
  | some (.slice e), some xs => bif (P.info? e).isNone then False else boundP hi len fun h hz => boundP lo 0 fun l lz => (0 ≤ lz ∧ lz ≤ hz ∧ hz ≤ len ∧ ∀ r ∈ xs, r.length = P.cellsOf e) ∧ k (.own kk (off + l) (h - l))
  | _, _ => False
theorem sliceO_sound {t : TypeId} {kk off len : Nat} {lo hi' : Option Operand} {k : G → Prop} (h : sliceO P t st kk off len (lo.map st.ev) (hi'.map st.ev) k) (hi : Inv C F st a w) {u : Value} (hx : Rep C w (.own kk off len) u) :
    ∃ g z, k g ∧ (Instr.sliceAt t u (lo.map a.eval) (hi'.map a.eval) none).run P w = .ok z w ∧ Rep C w g z := by
  unfold sliceO at h
  split at h
  · rename_i e xs hu hxs
    cases hin : (P.info? e).isNone with
    | true => rw [hin] at h; exact h.elim
    | false =>
      rw [hin] at h
      simp only [cond_false] at h
      obtain ⟨ii, hii⟩ : ∃ ii, P.info? e = some ii := by cases hq : P.info? e <;> simp_all
      obtain ⟨hh, hz, h, e1⟩ := boundP_run h hi
      obtain ⟨l, lz, ⟨⟨b1, b2, b3, b4⟩, h⟩, e2⟩ := boundP_run h hi
      have hlh : l ≤ hh ∧ hh ≤ len := by
        rcases e1 with ⟨_, q1, q2⟩ | ⟨_, _, _, _, q1⟩ <;> rcases e2 with ⟨_, q3, q4⟩ | ⟨_, _, _, _, q3⟩ <;> omega
      cases hx with
      | ownnil _ A hr =>
        obtain rfl : hh = 0 := by omega
        obtain rfl : l = 0 := by omega
        refine ⟨_, .slice A 0 0, h, ?_, by simpa using Rep.ownnil kk A hr⟩
        simp only [Instr.sliceAt, Instr.slice, Sem.run_bind, run_underlying hu, Result.andThen_ok]
        rw [run_bounds (P := P) (a := a) (cap := 0) e1 e2 b1 b2 b3 (Nat.le_refl _)]
        simp only [Result.andThen_ok, Go.run_sizeOf w hii, Sem.run_pure, Sem.run_bind]
        simp
      | own _ _ _ B s sz n A hr ho hA hn0 =>
        rcases hi.mem.row2 (rowsOf hxs) (fun km => km.np hr hn0) with ⟨k1, rfl⟩ | ⟨B', s', z', n', vs, T, fz, k1, k2, k3, k4, k5, k6, k6b, k7, k8⟩
        · rw [k1] at hr; cases hr
        · rw [hr] at k1; cases k1
          have hx0 : xs[0]? = some (xs[0]'(by omega)) := List.getElem?_eq_getElem (by omega)
          have hsz : sz = P.cellsOf e := by rw [← (k7 _ (List.mem_of_getElem? hx0)).1]; exact b4 _ (List.mem_of_getElem? hx0)
          refine ⟨_, .slice (if n - off = l then some A else (some A).map (·.add (l * P.cellsOf e))) (hh - l) (n - off - l), h, ?_, ?_⟩
          · simp only [Instr.sliceAt, Instr.slice, Sem.run_bind, run_underlying hu, Result.andThen_ok]
            rw [run_bounds (P := P) (a := a) (cap := n - off) e1 e2 b1 b2 b3 (by omega)]
            simp only [Result.andThen_ok, Go.run_sizeOf w hii, Sem.run_pure, Sem.run_bind]
          · rw [show n - off - l = n - (off + l) from by omega]
            by_cases hl : n - off = l
            · rw [if_pos hl]
              exact .own kk (off + l) (hh - l) B s sz n A hr (by omega) ⟨fun hlt => by omega, hA.2.1, hA.2.2⟩ hn0
            · rw [if_neg hl]
              obtain rfl := hA.1 (by omega)
              simp only [Option.map_some, addr_add]
              exact .own kk (off + l) (hh - l) B s sz n _ hr (by omega) ⟨fun hlt => by rw [← hsz, Nat.add_mul, Nat.add_assoc], rfl, rfl⟩ hn0
  · exact h.elim

/-! Bytes as a string. -/
def bytesP (P : Program) (src dst : TypeId) (x : G) (st : St) (k : G → Prop) : Prop :=
  match P.underlying src, P.underlying dst with
  | some (.slice e), some .string => match P.underlying e with
    | some (.int .u8) => srcP st x fun ys => ∃ bs : List UInt8, ys = bs.map (fun b => [G.int .u8 b.toNat]) ∧ k (.str ⟨bs.toArray⟩)
    | _ => False
  | _, _ => False
theorem bytesP_sound {src dst : TypeId} {x : G} {k : G → Prop} (h : bytesP P src dst x st k) (hi : Inv C F st a w) {u : Value} (hx : Rep C w x u) (hs : ∀ s, x ≠ .str s) : ∃ g z, k g ∧ (convert src dst u).run P w = .ok z w ∧ Rep C w g z := by
  unfold bytesP at h
  split at h
  · rename_i e hu hd
    split at h
    · rename_i he
      have hcell : ∃ A n cap, u = .slice A n cap := by
        cases x with
        | str s => exact absurd rfl (hs s)
        | nils => cases hx; exact ⟨_, _, _, rfl⟩
        | emp => cases hx; exact ⟨_, _, _, rfl⟩
        | ne => cases hx; exact ⟨_, _, _, rfl⟩
        | sl => cases hx <;> exact ⟨_, _, _, rfl⟩
        | own => cases hx <;> exact ⟨_, _, _, rfl⟩
        | _ => simp [srcP] at h
      obtain ⟨ys, ⟨bs, hbs, h⟩, hlen, hread⟩ := src_sound (P := P) h hi hx (sz := 1) (by omega)
      have hys : ys.length = bs.length := by rw [hbs]; simp
      obtain ⟨ws, hws, hcw⟩ := hread (fun r hr => by
        rw [hbs] at hr
        obtain ⟨b, _, rfl⟩ := List.mem_map.1 hr
        exact ⟨rfl, fun g hg => by simp at hg; subst hg; rfl⟩)
      have hval : ws = (bs.map fun b => (b.toNat : Int)).map (Value.int .u8) := by
        apply List.ext_getElem?
        intro i
        by_cases hlt : i < bs.length
        · have h1 : ys[i]? = some [G.int .u8 (bs[i].toNat)] := by rw [hbs, List.getElem?_map, List.getElem?_eq_getElem hlt]; rfl
          have hwl : i < ws.length := by rw [hcw.len, hys]; omega
          have := hcw.rep i _ 0 _ ws[i] h1 rfl (by rw [Nat.mul_one, Nat.add_zero]; exact List.getElem?_eq_getElem hwl)
          rw [List.getElem?_eq_getElem hwl, this.int_inv]
          simp [List.getElem?_eq_getElem hlt]
        · rw [List.getElem?_eq_none (by rw [hcw.len, hys]; omega), List.getElem?_eq_none (by simp; omega)]
      obtain ⟨A, n, cap, rfl⟩ := hcell
      have hn : n = ys.length := by simpa [Builtin.lenOf] using hlen
      subst hn
      refine ⟨_, .string ⟨bs.toArray⟩, h, ?_, .str _⟩
      rw [run_convert_bytes_string w src dst e A _ cap hu he hd]
      have hf := hws w rfl
      cases A with
      | none =>
        simp only [Builtin.firstCells, Sem.run_pure] at hf
        have : bs = [] := by
          have h0 : ws = [] := by simpa using (Result.ok.inj hf).1.symm
          rw [h0] at hval
          simpa using hval
        subst this
        simp [Conv.bytesToString]
        rfl
      | some A =>
        simp only [Builtin.firstCells, Nat.mul_one] at hf
        rw [run_bytesToString w A ys.length cap (bs.map fun b => (b.toNat : Int)) (by rw [hf, hval]), foldl_push_byteCells]
        simp [ByteArray.empty, ByteArray.emptyWithCapacity]
        try rfl
    · exact h.elim
  · exact h.elim

/-! Pointers against nil, and against themselves. -/
def ptrEq (P : Program) (t : TypeId) (x y : G) : Option Bool :=
  match P.underlying t with
  | some (.pointer te) => match x, y with
    | .ptr b o, .ptr b' o' => bif (P.info? te).isSome && Nat.beq b b' && Nat.beq o o' then some true else none
    | .ptrt b _ _, .ptrt b' _ _ => bif (P.info? te).isSome && Nat.beq b b' then some true else none
    | .ptrt .., .lit (.pointer none) => some false
    | .ptr .., .lit (.pointer none) | .elt .., .lit (.pointer none) | .eltw .., .lit (.pointer none) => some false
    | .lit (.pointer none), .lit (.pointer none) => some true
    | _, _ => none
  | some (.slice _) => match x, y with
    | .nils, .nils => some true
    | .ne, .nils => some false
    | .sl (_ :: _), .nils => some false
    | _, _ => none
  | some (.interface _) => match x, y with
    | .lit (.iface ..), .lit .nilIface => some false
    | _, _ => none
  | _ => none
theorem ptrEq_sound {t : TypeId} {x y : G} {b : Bool} (h : ptrEq P t x y = some b) {u v : Value} (hx : Rep C w x u) (hy : Rep C w y v) (X Y : Operand) :
    (do eqGuard .eql t X Y u v; binOp .eql t u v : Sem Value).run P w = .ok (.bool b) w ∧ (do eqGuard .neq t X Y u v; binOp .neq t u v : Sem Value).run P w = .ok (.bool !b) w := by
  have fin : ∀ u v, (∀ d, (Op.equalIn (d + 1) t u v).run P w = .ok b w) → (eqGuard .eql t X Y u v).run P w = .ok () w → (eqGuard .neq t X Y u v).run P w = .ok () w → binOp .eql t u v = (do pure (.bool (← Op.equal t u v)) : Sem Value) → binOp .neq t u v = (do pure (.bool !(← Op.equal t u v)) : Sem Value) →
      (do eqGuard .eql t X Y u v; binOp .eql t u v : Sem Value).run P w = .ok (.bool b) w ∧ (do eqGuard .neq t X Y u v; binOp .neq t u v : Sem Value).run P w = .ok (.bool !b) w := fun u v he g1 g2 b1 b2 => by
    have hq : (Op.equal t u v).run P w = .ok b w := he 9999
    constructor
    · rw [Sem.run_bind, g1, Result.andThen_ok, b1, Sem.run_bind, hq]; rfl
    · rw [Sem.run_bind, g2, Result.andThen_ok, b2, Sem.run_bind, hq]; rfl
  unfold ptrEq at h
  split at h
  · rename_i te hu
    split at h
    · rename_i b1 o1 b2 o2
      cases hc : (P.info? te).isSome && Nat.beq b1 b2 && Nat.beq o1 o2 with
      | false => rw [hc] at h; cases h
      | true =>
        rw [hc] at h
        cases h
        simp only [Bool.and_eq_true] at hc
        obtain ⟨⟨c1, c2⟩, c3⟩ := hc
        obtain ⟨j, hj⟩ := Option.isSome_iff_exists.1 c1
        obtain rfl := Nat.eq_of_beq_eq_true c2
        obtain rfl := Nat.eq_of_beq_eq_true c3
        cases hx with
        | ptr _ _ B hB =>
          cases hy with
          | ptr _ _ B' hB' =>
            rw [hB] at hB'; cases hB'
            exact fin _ _ (fun d => by simp [Op.equalIn, run_underlying hu, sizeOf, typeInfo, hj, run_sameAddr_same]) rfl rfl rfl rfl
    · rename_i b1 T1 n1 b2 T2 n2
      cases hc : (P.info? te).isSome && Nat.beq b1 b2 with
      | false => rw [hc] at h; cases h
      | true =>
        rw [hc] at h
        cases h
        simp only [Bool.and_eq_true] at hc
        obtain ⟨j, hj⟩ := Option.isSome_iff_exists.1 hc.1
        obtain rfl := Nat.eq_of_beq_eq_true hc.2
        cases hx with
        | ptrt _ _ _ B _ _ hB =>
          cases hy with
          | ptrt _ _ _ B' _ _ hB' =>
            rw [hB] at hB'; cases hB'
            exact fin _ _ (fun d => by simp [Op.equalIn, run_underlying hu, sizeOf, typeInfo, hj, run_sameAddr_same]) rfl rfl rfl rfl
    · cases h
      cases hx; cases hy
      exact fin _ _ (fun d => by simp [Op.equalIn, run_underlying hu]) rfl rfl rfl rfl
    · cases h
      cases hx; cases hy
      exact fin _ _ (fun d => by simp [Op.equalIn, run_underlying hu]) rfl rfl rfl rfl
    · cases h
      cases hx; cases hy
      exact fin _ _ (fun d => by simp [Op.equalIn, run_underlying hu]) rfl rfl rfl rfl
    · cases h
      cases hx; cases hy
      exact fin _ _ (fun d => by simp [Op.equalIn, run_underlying hu]) rfl rfl rfl rfl
    · cases h
      cases hx; cases hy
      exact fin _ _ (fun d => by simp [Op.equalIn, run_underlying hu]) rfl rfl rfl rfl
    · cases h
  · rename_i e hu
    split at h
    · cases h
      cases hx; cases hy
      exact fin _ _ (fun d => by simp [Op.equalIn, run_underlying hu]) rfl rfl rfl rfl
    · cases h
      cases hx; cases hy
      exact fin _ _ (fun d => by simp [Op.equalIn, run_underlying hu]) rfl rfl rfl rfl
    · cases h
      cases hx; cases hy
      exact fin _ _ (fun d => by simp [Op.equalIn, run_underlying hu]) rfl rfl rfl rfl
    · cases h
  · rename_i ms hu
    split at h
    · cases h
      cases hx; cases hy
      exact fin _ _ (fun d => by simp [Op.equalIn, run_underlying hu]) rfl rfl rfl rfl
    · cases h
  · cases h
end

/-- 's[:0:0]': nothing, and no room behind it. -/
def cut0 : G → Option G
  | .nils => some .nils
  | .emp | .ne | .sl _ | .own .. => some .emp
  | _ => none
def cutP (P : Program) (t : TypeId) (x h m : G) (k : G → Prop) : Prop :=
  match P.underlying t, h, m, cut0 x with
  | some (.slice e), .int _ hn, .int _ mn, some g => bif (P.info? e).isSome then (hn = 0 ∧ mn = 0) ∧ k g else False
  | _, _, _, _ => False
theorem cutP_sound {P : Program} {C : Cx} {w : World} {t : TypeId} {x h m : G} {k : G → Prop} (hc : cutP P t x h m k) {u v z : Value} (hx : Rep C w x u) (hh : Rep C w h v) (hm : Rep C w m z) :
    ∃ g y, k g ∧ (Instr.sliceAt t u none (some v) (some z)).run P w = .ok y w ∧ Rep C w g y := by
  unfold cutP at hc
  split at hc
  · rename_i e k1 hn k2 mn g hu hg
    cases hi : (P.info? e).isSome with
    | false => rw [hi] at hc; exact hc.elim
    | true =>
      rw [hi] at hc
      obtain ⟨⟨rfl, rfl⟩, hk⟩ := hc
      obtain ⟨ii, hii⟩ := Option.isSome_iff_exists.1 hi
      obtain rfl := hh.int_inv
      obtain rfl := hm.int_inv
      have run : ∀ (A : Option Addr) (n cap : Nat), (Instr.sliceAt t (.slice A n cap) none (some (.int k1 0)) (some (.int k2 0))).run P w = .ok (.slice A 0 0) w := fun A n cap => by
        simp [Instr.sliceAt, Instr.slice, run_underlying hu, Instr.sliceBounds, Instr.sliceBound, asIntOf, Go.run_sizeOf w hii]
      cases x <;> simp only [cut0, Option.some.injEq] at hg <;> first | (cases hg; done) | skip
      · subst hg
        cases hx <;> exact ⟨_, _, hk, run _ _ _, .emp _⟩
      · subst hg; cases hx; exact ⟨_, _, hk, run _ _ _, .nils⟩
      · subst hg; cases hx; exact ⟨_, _, hk, run _ _ _, .emp _⟩
      · subst hg; cases hx; exact ⟨_, _, hk, run _ _ _, .emp _⟩
      · subst hg
        cases hx <;> exact ⟨_, _, hk, run _ _ _, .emp _⟩
  · exact hc.elim
/-- '[]T{}': nothing, and not nil. -/
def noneP (P : Program) (t : TypeId) (k : G → Prop) : Prop :=
  match P.underlying t with
  | some (.slice e) => bif (P.info? e).isSome then k .emp else False
  | _ => False
theorem noneP_sound {P : Program} {C : Cx} {F : Fd} {st : St} {a : Act} {w : World} {t : TypeId} {k : G → Prop} (h : noneP P t k) (hi : Inv C F st a w) : ∃ z w', (Instr.buildSlice t 0 #[]).run P w = .ok z w' ∧ After F (fun g st' => k g ∧ st' = st) a z w' := by
  unfold noneP at h
  split at h
  · rename_i e hu
    cases hq : (P.info? e).isSome with
    | false => rw [hq] at h; exact h.elim
    | true =>
      rw [hq] at h
      obtain ⟨ii, hii⟩ := Option.isSome_iff_exists.1 hq
      refine ⟨.slice (some ⟨w.heap.size, 0, none⟩) 0 0, w.alloc (.cells #[] e), ?_, C, .emp, st, ⟨h, rfl⟩, hi.lt_alloc _, .emp _⟩
      simp [Instr.buildSlice, run_underlying hu, Go.run_sizeOf w hii, Instr.fill, newRow]
      congr 2
      exact Array.eq_empty_of_size_eq_zero (by simp)
  · exact h.elim
/-- A string as bytes: a new row. -/
def isAlloc (P : Program) (st : St) : Op → Bool
  | .convert _ dst x => match P.underlying dst, st.ev x with
    | some (.slice _), .str _ => true
    | _, _ => false
  | _ => false
def isNum : G → Bool
  | .int .. | .str _ => true
  | _ => false
def xop (P : Program) (d : Nat) (op : Op) (st : St) (k : G → St → Prop) : Prop :=
  match op with
  | .makeSlice t l c => makeP P d t (st.ev l) (st.ev c) st k
  | .store t p x => match st.ev p with
    | .eltw kk i off => storeW P t st kk i off (st.ev x) fun st' => k .junk st'
    | _ => vop P d (.store t p x) st k
  | .slice t x lo hi none => match st.ev x with
    | .own kk off len => sliceO P t st kk off len (lo.map st.ev) (hi.map st.ev) fun g => k g st
    | _ => vop P d (.slice t x lo hi none) st k
  | .slice t x none (some hh) (some m) => cutP P t (st.ev x) (st.ev hh) (st.ev m) fun g => k g st
  | .buildSlice t 0 ⟨[]⟩ => noneP P t fun g => k g st
  | .convert src dst x => bif isNum (st.ev x) then vop P d (.convert src dst x) st k else bytesP P src dst (st.ev x) st fun g => k g st
  | .binOp .eql t x y yt => match ptrEq P t (st.ev x) (st.ev y) with
    | some b => k (.bool b) st
    | none => vop P d (.binOp .eql t x y yt) st k
  | .binOp .neq t x y yt => match ptrEq P t (st.ev x) (st.ev y) with
    | some b => k (.bool !b) st
    | none => vop P d (.binOp .neq t x y yt) st k
  | op => vop P d op st k
theorem xop_sound {P : Program} {o : Oper} {d : Nat} {st : St} {k : G → St → Prop} {C : Cx} {F : Fd} {a : Act} {w : World} (h : xop P d o.op st k) (hi : Inv C F st a w) : Goes P o a w (After F k a) := by
  unfold xop at h
  split at h
  · rename_i t l c hop
    obtain ⟨z, w', h1, h2⟩ := makeP_sound h hi (hi.ev l) (hi.ev c)
    exact ⟨z, w', .inl (by cases o; simp only at hop; subst hop; simp [execOp, h1]), h2⟩
  · rename_i t p x hop
    split at h
    · rename_i kk i off hp
      have hr := hi.ev p
      rw [hp] at hr
      obtain ⟨st', w', h1, h2, h3⟩ := storeW_sound h hi hr (hi.ev x)
      exact ⟨undef, w', .inr ⟨by cases o; simp only at hop; subst hop; simp [execOp, h2], rfl⟩, C, _, _, h1, h3, .junk _⟩
    · exact vop_sound (by rw [hop]; exact h) hi
  · rename_i t x lo hi' hop
    split at h
    · rename_i kk off len hx
      have hr := hi.ev x
      rw [hx] at hr
      obtain ⟨g, z, h1, h2, h3⟩ := sliceO_sound h hi hr
      exact ⟨z, w, .inl (by cases o; simp only at hop; subst hop; simp [execOp, h2]), after_same hi h1 h3⟩
    · exact vop_sound (by rw [hop]; exact h) hi
  · rename_i t x hh m hop
    obtain ⟨g, z, h1, h2, h3⟩ := cutP_sound h (hi.ev x) (hi.ev hh) (hi.ev m)
    exact ⟨z, w, .inl (by cases o; simp only at hop; subst hop; simp [execOp, h2]), after_same hi h1 h3⟩
  · rename_i t hop
    obtain ⟨z, w', h1, h2⟩ := noneP_sound h hi
    obtain ⟨C', g, s, ⟨q1, rfl⟩, q2, q3⟩ := h2
    exact ⟨z, w', .inl (by cases o; simp only at hop; subst hop; simp [execOp, h1]), C', g, _, q1, q2, q3⟩
  · rename_i src dst x hop
    cases hn : isNum (st.ev x) with
    | true => rw [hn] at h; simp only [cond_true] at h; exact vop_sound (d := d) (by rw [hop]; exact h) hi
    | false =>
      rw [hn] at h
      simp only [cond_false] at h
      obtain ⟨g, z, h1, h2, h3⟩ := bytesP_sound h hi (hi.ev x) (fun s e => by rw [e] at hn; cases hn)
      exact ⟨z, w, .inl (by cases o; simp only at hop; subst hop; simp [execOp, h2]), after_same hi h1 h3⟩
  · rename_i t x y yt hop
    split at h
    · rename_i b hb
      obtain ⟨h1, h2⟩ := ptrEq_sound hb (hi.ev x) (hi.ev y) x y
      refine ⟨_, w, .inl ?_, after_same hi h (.bool _)⟩
      cases o; simp only at hop; subst hop
      simp only [execOp]
      rw [Sem.run_bind, h1]; rfl
    · exact vop_sound (by rw [hop]; exact h) hi
  · rename_i t x y yt hop
    split at h
    · rename_i b hb
      obtain ⟨h1, h2⟩ := ptrEq_sound hb (hi.ev x) (hi.ev y) x y
      refine ⟨_, w, .inl ?_, after_same hi h (.bool _)⟩
      cases o; simp only at hop; subst hop
      simp only [execOp]
      rw [Sem.run_bind, h2]; rfl
    · exact vop_sound (by rw [hop]; exact h) hi
  · exact vop_sound h hi
end Go.Proofs.YtcihkmnolagdlaaDoor.Av
