/- Pointers to variables of a known type, rows of bytes of a known type: what strings.Builder asks. No condition. -/
import Derived.Test.YtcihkmnolagdlaaDoorAv7c
import Derived.Lib.Builder
import Derived.Lib.UnsafeStr
namespace Go.Proofs.YtcihkmnolagdlaaDoor.Av
open Go Go.RowKit
set_option linter.unusedVariables false
set_option linter.unusedSimpArgs false

def typedZ : List G → Option (List G)
  | [.lit (.pointer none), .nils] => some [.lit (.pointer none), .nilt]
  | _ => none
def okSz (P : Program) (t : TypeId) : Bool :=
  match P.info? t with
  | some j => !(Nat.beq j.size 0)
  | none => false
def allocT (P : Program) (d : Nat) (t : TypeId) (st : St) (k : G → St → Prop) : Prop :=
  match zeroCells P t with
  | some cs => match typedZ cs with
    | some cs' => bif Nat.blt d st.boxes.length && Nat.blt d st.slots.length then k (.ptrt d t cs'.length) (st.newBox d cs') else False
    | none => xop P d (.alloc t) st k
  | none => False
def convT (P : Program) (src dst : TypeId) (b : Nat) (T : TypeId) (n : Nat) (k : G → Prop) : Prop :=
  match P.underlying src, P.underlying dst with
  | some (.pointer t), some .unsafePointer => bif okSz P t && Nat.blt 0 n then k (.ptrt b T n) else False
  | some .unsafePointer, some (.pointer u) => bif (P.info? u).isSome then liesAt P P.depth T (n / P.cellsOf T) 0 u 1 = true ∧ k (.ptrt b T n) else False
  | _, _ => False
def dataT (gs : List G) (k : G → Prop) : Prop :=
  match gs with
  | [.nilt] => k (.lit (.pointer none))
  | [.ownt kk len T] => k (.datt kk T)
  | _ => False
def strT (P : Program) (gs : List G) (ts : List TypeId) (st : St) (k : G → St → Prop) : Prop :=
  match gs, ts with
  | [.lit (.pointer none), .int .i64 n], [_, _] => n = 0 ∧ k (.str ⟨#[]⟩) st
  | [.datt kk T, .int .i64 n], [pt, _] => match P.underlying pt, st.rows.getD kk none with
    | some (.pointer e), some xs => bif Nat.beq e T && Nat.beq (P.cellsOf e) 1 then
        ∃ bs : List UInt8, (n = (bs.length : Int) ∧ bs.length ≤ 9223372036854775807 ∧ xs.take bs.length = bs.map (fun b => [G.int .u8 b.toNat])) ∧ k (.str ⟨bs.toArray⟩) (st.killR kk)
      else False
    | _, _ => False
  | _, _ => False
/-- clear of an own row, or of a part of it. -/
def clearP (P : Program) (gs : List G) (ts : List TypeId) (st : St) (k : G → St → Prop) : Prop :=
  match gs, ts with
  | [.own kk off len], [t] => match P.underlying t, st.rows.getD kk none with
    | some (.slice e), some xs => match zeroCells P e with
      | some cs => bif cs.all G.closed0 && !(Nat.beq (P.cellsOf e) 0) then (off + len ≤ xs.length ∧ ∀ r ∈ xs, r.length = P.cellsOf e) ∧ k (.tup []) (st.setRow kk (xs.take off ++ List.replicate len cs ++ xs.drop (off + len))) else False
      | none => False
    | _, _ => False
  | _, _ => False
/-- The operations of xop, and these. -/
def uop (P : Program) (d : Nat) (op : Op) (st : St) (k : G → St → Prop) : Prop :=
  match op with
  | .alloc t => allocT P d t st k
  | .convert src dst x => match st.ev x with
    | .ptrt b T n => convT P src dst b T n fun g => k g st
    | _ => xop P d (.convert src dst x) st k
  | .call { callee := .builtin .unsafeSliceData, args, .. } => dataT (args.toList.map st.ev) fun g => k g st
  | .call { callee := .builtin .unsafeString, args, argTypes } => strT P (args.toList.map st.ev) argTypes.toList st k
  | .call { callee := .builtin .clear, args, argTypes } => clearP P (args.toList.map st.ev) argTypes.toList st k
  | op => xop P d op st k

theorem freeze_facts (w : World) (B n : Nat) : (w.freeze ⟨B, 0, none⟩ n).os = w.os ∧ (w.freeze ⟨B, 0, none⟩ n).tape = w.tape ∧ (w.freeze ⟨B, 0, none⟩ n).output = w.output ∧ (w.freeze ⟨B, 0, none⟩ n).heap.size = w.heap.size ∧ (∀ k, k ≠ B → (w.freeze ⟨B, 0, none⟩ n).heap[k]? = w.heap[k]?) ∧
    ∀ (k : Nat) (vs : Array Value) (T : TypeId) (fz : Nat × Nat), w.heap[k]? = some (.cells vs T fz) → ∃ vs' fz', (w.freeze ⟨B, 0, none⟩ n).heap[k]? = some (.cells vs' T fz') ∧ vs'.size = vs.size := by
  unfold World.freeze
  split
  · exact ⟨rfl, rfl, rfl, rfl, fun _ _ => rfl, fun k vs T fz h => ⟨vs, fz, h, rfl⟩⟩
  · refine ⟨rfl, rfl, rfl, by simp, fun k hk => ?_, fun k vs T fz h => ?_⟩
    · simp only [Array.getElem?_modify]; rw [if_neg (fun e => hk e.symm)]
    · simp only [Array.getElem?_modify]
      by_cases e : B = k
      · rw [if_pos e, h]
        obtain ⟨lo, hi⟩ := fz
        exact ⟨vs, _, rfl, rfl⟩
      · rw [if_neg e]; exact ⟨vs, fz, h, rfl⟩
section
variable {P : Program} {C : Cx} {F : Fd} {st : St} {a : Act} {w : World}
theorem map_one {α β : Type} {f : α → β} {l : List α} {y : β} (h : l.map f = [y]) : ∃ X, l = [X] ∧ f X = y := by
  cases l with
  | nil => cases h
  | cons X l => cases l with
    | nil => simp at h; exact ⟨X, rfl, h⟩
    | cons _ _ => simp at h
theorem map_two {α β : Type} {f : α → β} {l : List α} {y z : β} (h : l.map f = [y, z]) : ∃ X Y, l = [X, Y] ∧ f X = y ∧ f Y = z := by
  cases l with
  | nil => cases h
  | cons X l =>
    rw [List.map_cons, List.cons.injEq] at h
    obtain ⟨Y, rfl, h2⟩ := map_one h.2
    exact ⟨X, Y, rfl, h.1, h2⟩
theorem typedZ_some {cs cs' : List G} (h : typedZ cs = some cs') : cs = [.lit (.pointer none), .nils] ∧ cs' = [.lit (.pointer none), .nilt] := by
  unfold typedZ at h
  split at h
  · cases h; exact ⟨rfl, rfl⟩
  · cases h
theorem allocT_sound {d : Nat} {t : TypeId} {k : G → St → Prop} {o : Oper} (ho : o.op = .alloc t) (h : allocT P d t st k) (hi : Inv C F st a w) : Goes P o a w (After F k a) := by
  unfold allocT at h
  split at h
  · rename_i cs hz
    split at h
    · rename_i cs' hty
      obtain ⟨rfl, rfl⟩ := typedZ_some hty
      cases hlt : Nat.blt d st.boxes.length && Nat.blt d st.slots.length with
      | false => rw [hlt] at h; exact h.elim
      | true =>
        rw [hlt] at h
        simp only [Bool.and_eq_true] at hlt
        have hsl := Nat.le_of_ble_eq_true hlt.2
        obtain ⟨z, h1, h2, _, h3, h4⟩ := zeroCells_sound hz w
        obtain ⟨C', hI, hb⟩ := hi.newBox d (cs := [.lit (.pointer none), .nilt]) (Nat.le_of_ble_eq_true hlt.1) (by omega) t (by rw [h2]; rfl) h3 (fun i g v hg hv => by
          match i, hg with
          | 0, hg => exact h4 C w 0 g v hg hv
          | 1, hg =>
            obtain rfl : G.nilt = g := by simpa using hg
            have := (h4 C w 1 .nils v rfl hv).2
            cases this
            exact ⟨rfl, .nilt⟩)
        refine ⟨.pointer (some ⟨w.heap.size, 0, none⟩), w.alloc (.cells z.cells t), .inl ?_, C', _, _, h, hI, .ptrt d t _ _ z.cells (0, 0) hb (heap_alloc_new w _) (by rw [← Array.length_toList, h2]; rfl)⟩
        obtain ⟨dst, op, ty, pos, aft, gd⟩ := o
        simp only at ho; subst ho
        simp [execOp, Instr.alloc, h1, newVar, newRow]
    · exact xop_sound (by rw [ho]; exact h) hi
  · exact h.elim
theorem convT_sound {src dst : TypeId} {b : Nat} {T : TypeId} {n : Nat} {k : G → Prop} (h : convT P src dst b T n k) {u : Value} (hx : Rep C w (.ptrt b T n) u) : ∃ g z, k g ∧ (convert src dst u).run P w = .ok z w ∧ Rep C w g z := by
  cases hx with
  | ptrt _ _ _ B vs fz hb ht hn =>
    have hsh : w.shape? B = some (T, vs.size) := by unfold World.shape?; rw [ht]
    unfold convT at h
    split at h
    · rename_i t hs hd
      cases hc : okSz P t && Nat.blt 0 n with
      | false => rw [hc] at h; exact h.elim
      | true =>
        rw [hc] at h
        simp only [Bool.and_eq_true] at hc
        have hn0 : 0 < n := Nat.le_of_ble_eq_true hc.2
        have hsz := hc.1
        unfold okSz at hsz
        split at hsz
        · rename_i j hj
          have hj0 : j.size ≠ 0 := fun e => by rw [e] at hsz; cases hsz
          exact ⟨_, _, h, Lib.run_to_unsafe (P := P) w ⟨B, 0, none⟩ hs hd hj hj0 hsh (by show 0 < vs.size; omega), .ptrt b T n B vs fz hb ht hn⟩
        · cases hsz
    · rename_i u hs hd
      cases hc : (P.info? u).isSome with
      | false => rw [hc] at h; exact h.elim
      | true =>
        rw [hc] at h
        obtain ⟨j, hj⟩ := Option.isSome_iff_exists.1 hc
        obtain ⟨hl, h⟩ := h
        exact ⟨_, _, h, Lib.run_from_unsafe (P := P) w ⟨B, 0, none⟩ hs hd hj hsh (by rw [hn]; exact hl), .ptrt b T n B vs fz hb ht hn⟩
    · exact h.elim
theorem Inv.rowTo {k : Nat} {xs xs' : List (List G)} {w' : World} (h : Inv C F st a w) (hxs : st.rows[k]? = some (some xs)) {B s sz n : Nat} {vs' : List Value} {T : TypeId} {fz : Nat × Nat} (k1 : C.row k = some (some (B, s, sz, n)))
    (k4 : s + n * sz ≤ vs'.length) (k6 : ∀ o, o < vs'.length → ¬ (fz.1 ≤ o ∧ o < fz.2)) (hx : 0 < xs'.length ∧ xs'.length ≤ n) (h1 : ∀ v ∈ vs', v.oneCell' = true)
    (h7 : ∀ r ∈ xs', r.length = sz ∧ ∀ g ∈ r, g.closed0 = true) (h8 : ∀ (i : Nat) r (j : Nat) g v, xs'[i]? = some r → r[j]? = some g → vs'[s + i * sz + j]? = some v → Rep C w g v)
    (ho : Only w w' B vs' T fz) : Inv C F (st.setRow k xs') a w' := by
  have he : C.ex B := h.mem.ltR k1
  have hk := ho.keeps he
  have keep : ∀ g v, Rep C w g v → Rep C w' g v := fun g v hg => hg.keep hk (fun _ _ h => h) (fun _ _ h => h) (fun _ _ h => h)
  have hkl : k < st.rows.length := (List.getElem?_eq_some_iff.1 hxs).1
  refine ⟨h.nd, h.sz, fun j g v hg hv => keep g v (h.slots j g v hg hv), ⟨fun x cs' hx => ?_, fun x ys hx' => ?_, h.mem.domB, fun x X hx' => ?_, h.mem.bb, h.mem.rr, h.mem.br, fun X hX => by rw [ho.size]; exact h.mem.lt X hX⟩, ho.fr h.fr (h.tr k B s sz n k1), h.ex0, h.exn, h.t0, h.tb, h.tr, h.fb⟩
  · obtain ⟨X, vs', T', q1, q2, q3, q4, q5, q6⟩ := h.mem.box x cs' hx
    have hne : X ≠ B := fun e' => h.mem.br x k B s sz n (by rw [← e']; exact q1) k1
    exact ⟨X, vs', T', q1, q2, by rw [ho.block X hne]; exact q3, q4, q5, fun j g v hg hv => ⟨(q6 j g v hg hv).1, keep _ _ (q6 j g v hg hv).2⟩⟩
  · by_cases e : x = k
    · subst e
      simp only [St.setRow, List.getElem?_set_self hkl, Option.some.injEq] at hx'
      subst hx'
      exact .inr (.inl ⟨B, s, sz, n, _, T, fz, k1, he, ho.here, k4, hx, k6, h1, h7, fun i r j g v a1 a2 a3 => keep _ _ (h8 i r j g v a1 a2 a3)⟩)
    · simp only [St.setRow, List.getElem?_set_ne (fun e' => e e'.symm)] at hx'
      rcases h.mem.row x ys hx' with q1 | ⟨X, s', sz', n', vs', T', fz', q1, q2, q3, q4, q5, q6, q6b, q7, q8⟩ | km
      · exact .inl q1
      · have hne : X ≠ B := fun e' => e (h.mem.rr x k X s' sz' n' s sz n q1 (by rw [e']; exact k1))
        exact .inr (.inl ⟨X, s', sz', n', vs', T', fz', q1, q2, by rw [ho.block X hne]; exact q3, q4, q5, q6, q6b, q7, fun i r j g v a1 a2 a3 => keep _ _ (q8 i r j g v a1 a2 a3)⟩)
      · exact .inr (.inr (km.move (fun q h => h) (fun _ _ _ h => h) (fun X q hq => ho.block X (fun e' => e (h.mem.rr x k X _ _ _ s sz n hq (by rw [e']; exact k1)))) (fun g u _ hu => keep _ _ hu)))
  · by_cases e : x = k
    · subst e; exact ⟨_, by simp only [St.setRow]; exact List.getElem?_set_self hkl⟩
    · obtain ⟨ys, hys⟩ := h.mem.domR x X hx'
      exact ⟨ys, by simp only [St.setRow, List.getElem?_set_ne (fun e' => e e'.symm)]; exact hys⟩
theorem setRow_self {k : Nat} {xs : List (List G)} (h : st.rows[k]? = some (some xs)) : st.setRow k xs = st := by
  obtain ⟨hk, e⟩ := List.getElem?_eq_some_iff.1 h
  cases st with
  | mk s b r => simp only [St.setRow] at *; rw [← e, List.set_getElem_self]
theorem zeros_get {z : Array Value} {n i j : Nat} (hi : i < n) (hj : j < z.size) : (Builtin.zeroCells z n).toList[i * z.size + j]? = z.toList[j]? := by
  have hlt : i * z.size + j < n * z.size := mul_lt hi hj
  simp only [Builtin.zeroCells, Array.toList_map, List.getElem?_map, Array.toList_range, List.getElem?_range hlt, Option.map_some]
  rw [Nat.mul_comm, Nat.mul_add_mod, Nat.mod_eq_of_lt hj, getElem!_pos z j hj, Array.getElem?_toList, Array.getElem?_eq_getElem hj]
theorem clear_row {xs : List (List G)} {cs : List G} {off len i : Nat} (h : off + len ≤ xs.length) : (xs.take off ++ List.replicate len cs ++ xs.drop (off + len))[i]? = if off ≤ i ∧ i < off + len then some cs else xs[i]? := by
  have hl : (xs.take off).length = off := by simp; omega
  by_cases h1 : i < off
  · rw [if_neg (by omega), List.append_assoc, List.getElem?_append_left (by omega), List.getElem?_take, if_pos h1]
  · by_cases h2 : i < off + len
    · rw [if_pos (by omega), List.getElem?_append_left (by simp; omega), List.getElem?_append_right (by omega), hl, List.getElem?_replicate, if_pos (by omega)]
    · rw [if_neg (by omega), List.getElem?_append_right (by simp; omega), List.getElem?_drop]
      congr 1
      simp; omega
theorem clear_sound {gs : List G} {ts : List TypeId} {k : G → St → Prop} (h : clearP P gs ts st k) (hi : Inv C F st a w) {args : Array Operand} (hg : args.toList.map st.ev = gs) {ats : Array TypeId} (ht : ats.toList = ts) (ty : TypeId) :
    ∃ st' w', k (.tup []) st' ∧ (Builtin.clear_ ats ty (args.map a.eval)).run P w = .ok (.tuple #[]) w' ∧ Inv C F st' a w' := by
  unfold clearP at h
  split at h
  · rename_i kk off len t
    split at h
    · rename_i e xs hu hxs
      split at h
      · rename_i cs hcs
        cases hc : cs.all G.closed0 && !(Nat.beq (P.cellsOf e) 0) with
        | false => rw [hc] at h; exact h.elim
        | true =>
          rw [hc] at h
          simp only [Bool.and_eq_true, List.all_eq_true, Bool.not_eq_true'] at hc
          have hp : 0 < P.cellsOf e := Nat.pos_of_ne_zero (Nat.ne_of_beq_eq_false hc.2)
          obtain ⟨⟨hle, hxr⟩, h⟩ := h
          obtain ⟨X, hX, hXe⟩ := map_one hg
          have hr := hi.ev X
          rw [hXe] at hr
          have e1 : ats = #[t] := by apply Array.toList_inj.1; simpa using ht
          subst e1
          generalize hv : a.eval X = v at hr
          have e0 : args.map a.eval = #[v] := by apply Array.toList_inj.1; simp [hX, hv]
          rw [e0]
          rcases Nat.eq_zero_or_pos len with h0 | hpos
          · subst h0
            have hself : xs.take off ++ List.replicate 0 cs ++ xs.drop (off + 0) = xs := by simp
            rw [hself, setRow_self (rowsOf hxs)] at h
            refine ⟨st, w, h, ?_, hi⟩
            cases hr with
            | own => simp [Builtin.clear_, run_underlying hu]
            | ownnil _ A _ => cases A <;> simp [Builtin.clear_, run_underlying hu]
          · cases hr with
            | ownnil => omega
            | own _ _ _ B s sz n A hr ho hA hn0 =>
              rcases hi.mem.row2 (rowsOf hxs) (fun km => km.np hr hn0) with ⟨k1, rfl⟩ | ⟨B', s', z', n', vs, T, fz, k1, k2, k3, k4, k5, k6, k6b, k7, k8⟩
              · simp at hle; omega
              · rw [hr] at k1; cases k1
                obtain ⟨z, z1, z2, z3, z4, z5⟩ := zeroCells_sound hcs w
                have hsz : sz = P.cellsOf e := by
                  have hx0 : xs[0]? = some (xs[0]'(by omega)) := List.getElem?_eq_getElem (by omega)
                  rw [← (k7 _ (List.mem_of_getElem? hx0)).1]; exact hxr _ (List.mem_of_getElem? hx0)
                subst hsz
                obtain rfl := hA.1 (by omega)
                have hzs : z.cells.size = P.cellsOf e := by rw [← Array.length_toList, z2, z3]
                have hzl : (Builtin.zeroCells z.cells len).toList.length = len * P.cellsOf e := by rw [zeros_len, hzs]
                have hfit : s + off * P.cellsOf e + len * P.cellsOf e ≤ vs.length := by
                  have : (off + len) * P.cellsOf e ≤ n * P.cellsOf e := Nat.mul_le_mul_right _ (by omega)
                  rw [Nat.add_mul] at this; omega
                have hz1 := zeros_one z4 (by omega) len
                obtain ⟨w', hw, hon⟩ := run_storeCells_on (P := P) B (s + off * P.cellsOf e) T fz (Builtin.zeroCells z.cells len).toList 0 vs w k3 (by rw [hzl]; omega) hz1 k6
                rw [Nat.add_zero] at hon
                refine ⟨_, w', h, ?_, hi.rowTo (rowsOf hxs) hr (by rw [blit_length]; exact k4) (fun o ho' => k6 o (by rwa [blit_length] at ho')) (by simp; omega) (fun v hv => ?_) (fun r hm => ?_) (fun i r j g v a1 a2 a3 => ?_) hon⟩
                · obtain ⟨m, rfl⟩ : ∃ m, len = m + 1 := ⟨len - 1, by omega⟩
                  simp [Builtin.clear_, run_underlying hu, z1, hw]
                · obtain ⟨j, hj⟩ := List.mem_iff_getElem?.1 hv
                  rw [blit_get _ _ _ _ (by rw [hzl]; exact hfit)] at hj
                  split at hj
                  · exact hz1 v (List.mem_of_getElem? hj)
                  · exact k6b v (List.mem_of_getElem? hj)
                · obtain ⟨i, hi'⟩ := List.mem_iff_getElem?.1 hm
                  rw [clear_row hle] at hi'
                  split at hi'
                  · cases hi'; exact ⟨z3, fun g hg' => hc.1 g hg'⟩
                  · exact k7 r (List.mem_of_getElem? hi')
                · rw [blit_get _ _ _ _ (by rw [hzl]; exact hfit), hzl] at a3
                  rw [clear_row hle] at a1
                  split at a1
                  · rename_i hin
                    cases a1
                    have hj : j < P.cellsOf e := by rw [← z3]; exact (List.getElem?_eq_some_iff.1 a2).1
                    have hm := mul_lt (n := len) (show i - off < len by omega) hj
                    have hs : s + i * P.cellsOf e + j = s + off * P.cellsOf e + ((i - off) * P.cellsOf e + j) := by
                      have : i * P.cellsOf e = off * P.cellsOf e + (i - off) * P.cellsOf e := by rw [← Nat.add_mul]; congr 1; omega
                      omega
                    rw [hs, if_pos (by omega), Nat.add_sub_cancel_left] at a3
                    rw [← hzs] at a3
                    rw [zeros_get (by omega) (by omega)] at a3
                    exact (z5 C w j g v a2 a3).2
                  · rename_i hin
                    have hj : j < P.cellsOf e := by rw [← (k7 r (List.mem_of_getElem? a1)).1]; exact (List.getElem?_eq_some_iff.1 a2).1
                    rw [if_neg (by
                      intro hc'
                      by_cases h1 : i < off
                      · have : (i + 1) * P.cellsOf e ≤ off * P.cellsOf e := Nat.mul_le_mul_right _ h1
                        rw [Nat.succ_mul] at this; omega
                      · have : (off + len) * P.cellsOf e ≤ i * P.cellsOf e := Nat.mul_le_mul_right _ (by omega)
                        rw [Nat.add_mul] at this; omega)] at a3
                    exact k8 i r j g v a1 a2 a3
      · exact h.elim
    · exact h.elim
  · exact h.elim
theorem uop_sound {o : Oper} {d : Nat} {k : G → St → Prop} (h : uop P d o.op st k) (hi : Inv C F st a w) : Goes P o a w (After F k a) := by
  unfold uop at h
  split at h
  · rename_i t hop
    exact allocT_sound hop h hi
  · rename_i src dst x hop
    split at h
    · rename_i b T n hx
      have hr := hi.ev x
      rw [hx] at hr
      obtain ⟨g, z, h1, h2, h3⟩ := convT_sound h hr
      exact ⟨z, w, .inl (by cases o; simp only at hop; subst hop; simp [execOp, h2]), after_same hi h1 h3⟩
    · exact xop_sound (by rw [hop]; exact h) hi
  · rename_i args ats hop
    unfold dataT at h
    split at h
    · rename_i heq
      obtain ⟨X, hX, hXe⟩ := map_one heq
      have hr := hi.ev X
      rw [hXe] at hr
      generalize hv : a.eval X = v at hr
      cases hr
      refine ⟨.pointer none, w, .inl ?_, after_same hi h (.lit _ rfl)⟩
      have e0 : args.map a.eval = #[.slice none 0 0] := by apply Array.toList_inj.1; simp [hX, hv]
      obtain ⟨dst, op, ty, pos, aft, gd⟩ := o
      simp only at hop; subst hop
      simp only [execOp, resolve, Sem.run_bind, Sem.run_pure, Result.andThen_ok, invoke, builtin, e0]
      rfl
    · rename_i kk len T heq
      obtain ⟨X, hX, hXe⟩ := map_one heq
      have hr := hi.ev X
      rw [hXe] at hr
      generalize hv : a.eval X = v at hr
      have e0 : args.map a.eval = #[v] := by apply Array.toList_inj.1; simp [hX, hv]
      obtain ⟨dst, op, ty, pos, aft, gd⟩ := o
      simp only at hop; subst hop
      cases hr with
      | ownt _ _ _ B n vs fz hk ho ht =>
        have hn : n ≠ 0 := by
          obtain ⟨xs, hxs⟩ := hi.mem.domR kk _ hk
          rcases hi.mem.row2 hxs (fun km => km.nT hk ht) with ⟨k1, _⟩ | ⟨B', s', sz', n', vs', T', fz', k1, _, _, _, k5, _⟩
          · rw [hk] at k1; cases k1
          · rw [hk] at k1; cases k1; omega
        refine ⟨.pointer (some ⟨B, 0, none⟩), w, .inl ?_, after_same hi h (.datt kk T B n vs fz hk ht)⟩
        simp only [execOp, resolve, Sem.run_bind, Sem.run_pure, Result.andThen_ok, invoke, builtin, e0]
        rw [Lib.run_unsafeSliceData_row w ats ty ⟨B, 0, none⟩ len n hn]
        rfl
      | owntnil _ _ hk =>
        refine ⟨.pointer none, w, .inl ?_, after_same hi h (.dattnil kk T hk)⟩
        simp only [execOp, resolve, Sem.run_bind, Sem.run_pure, Result.andThen_ok, invoke, builtin, e0]
        rfl
    · exact h.elim
  · rename_i args ats hop
    unfold strT at h
    split at h
    · rename_i n t1 t2 heq hts
      obtain ⟨X, Y, hX, hXe, hYe⟩ := map_two heq
      have hr := hi.ev X
      have hr2 := hi.ev Y
      rw [hXe] at hr
      rw [hYe] at hr2
      obtain ⟨rfl, h⟩ := h
      have e0 : args.map a.eval = #[.pointer none, .int .i64 0] := by
        apply Array.toList_inj.1
        have h1 : a.eval X = .pointer none := by generalize a.eval X = v at hr; cases hr; rfl
        simp [hX, h1, hr2.int_inv]
      have e1 : ats = #[t1, t2] := by apply Array.toList_inj.1; simpa using hts
      obtain ⟨dst, op, ty, pos, aft, gd⟩ := o
      simp only at hop; subst hop
      refine ⟨.string .empty, w, .inl ?_, after_same hi h (.str _)⟩
      subst e1
      simp only [execOp, resolve, Sem.run_bind, Sem.run_pure, Result.andThen_ok, invoke, builtin, e0]
      rw [Lib.run_unsafeString_none w t1 t2 ty none]
      rfl
    · rename_i kk T n pt it heq hts
      split at h
      · rename_i e xs hpt hxs
        cases hc : Nat.beq e T && Nat.beq (P.cellsOf e) 1 with
        | false => rw [hc] at h; exact h.elim
        | true =>
          rw [hc] at h
          simp only [Bool.and_eq_true] at hc
          obtain rfl := Nat.eq_of_beq_eq_true hc.1
          have hce := Nat.eq_of_beq_eq_true hc.2
          obtain ⟨bs, ⟨rfl, hbl, hbx⟩, h⟩ := h
          obtain ⟨X, Y, hX, hXe, hYe⟩ := map_two heq
          have hr := hi.ev X
          have hr2 := hi.ev Y
          rw [hXe] at hr
          rw [hYe] at hr2
          generalize hv : a.eval X = v at hr
          have e0 : args.map a.eval = #[v, .int .i64 (bs.length : Int)] := by
            apply Array.toList_inj.1
            simp [hX, hv, hr2.int_inv]
          have e1 : ats = #[pt, it] := by apply Array.toList_inj.1; simpa using hts
          have hkill := hi.killR kk
          obtain ⟨dst, op, ty, pos, aft, gd⟩ := o
          simp only at hop; subst hop
          subst e1
          have hnil : bs = [] → ∀ q, v = .pointer q → Goes P ⟨dst, .call { callee := .builtin .unsafeString, args, argTypes := #[pt, it] }, ty, pos, aft, gd⟩ a w (After F k a) := fun hb0 q hq => by
            subst hb0
            subst hq
            refine ⟨.string .empty, w, .inl ?_, C.noR kk, _, _, h, hkill, .str _⟩
            simp only [execOp, resolve, Sem.run_bind, Sem.run_pure, Result.andThen_ok, invoke, builtin, e0]
            rw [show ((([] : List UInt8).length : Nat) : Int) = 0 from rfl, Lib.run_unsafeString_none w pt it ty q]
            rfl
          cases hr with
          | dattnil _ _ hk =>
            refine hnil ?_ none rfl
            rcases hi.mem.row2 (rowsOf hxs) (fun km => km.nn hk) with ⟨_, rfl⟩ | ⟨B', s', sz', n', vs', T', fz', k1, _⟩
            · cases bs with
              | nil => rfl
              | cons b bs => simp at hbx
            · rw [hk] at k1; cases k1
          | datt _ _ B n vs0 fz0 hk ht =>
            by_cases hb0 : bs = []
            · exact hnil hb0 _ rfl
            rcases hi.mem.row2 (rowsOf hxs) (fun km => km.nT hk ht) with ⟨k1, _⟩ | ⟨B', s', sz', n', vs, T', fz, k1, k2, k3, k4, k5, k6, k6b, k7, k8⟩
            · rw [hk] at k1; cases k1
            rw [hk] at k1; cases k1
            rw [ht] at k3
            simp only [Option.some.injEq, Obj.cells.injEq] at k3
            obtain ⟨rfl, rfl, rfl⟩ := k3
            have hxl : bs.length ≤ xs.length := by
              have := congrArg List.length hbx
              rw [List.length_take, List.length_map] at this; omega
            have hsh : w.shape? B = some (e, vs.length) := by unfold World.shape?; rw [ht]; simp
            have hcell : ∀ j x, bs[j]? = some x → w.cell? ((⟨B, 0, none⟩ : Addr).add j) = some (.int .u8 x.toNat) := fun j x hj => by
              have hjl : j < bs.length := (List.getElem?_eq_some_iff.1 hj).1
              have hxj : xs[j]? = some [G.int .u8 x.toNat] := by
                have := congrArg (fun l => l[j]?) hbx
                simp only [List.getElem?_take, List.getElem?_map, hj] at this
                rw [if_pos hjl] at this
                simpa using this
              rw [addr_add, Nat.zero_add, cell_of_block ht]
              have hvl : j < vs.length := by omega
              have hvj : vs[0 + j * 1 + 0]? = some vs[j] := by rw [show 0 + j * 1 + 0 = j from by omega]; exact List.getElem?_eq_getElem hvl
              have := k8 j _ 0 _ _ hxj rfl hvj
              rw [List.getElem?_eq_getElem hvl, this.int_inv]
            obtain ⟨f1, f2, f3, f4, f5, f6⟩ := freeze_facts w B bs.length
            have hBt := hi.tr kk B 0 1 n hk
            have hI : Inv (C.noR kk) F (st.killR kk) a (w.freeze ⟨B, 0, none⟩ bs.length) :=
              hkill.step ⟨f1.trans hi.fr.os, f2.trans hi.fr.tape, f3.trans hi.fr.output, by rw [f4]; exact hi.fr.size, fun B' hB' hn' => by
                  rw [f5 B' (fun e => by subst e; rcases hBt with hBt | hBt; exact hn' hBt; omega)]; exact hi.fr.block B' hB' hn',
                  fun B' vs' T' fz' h' => by obtain ⟨v1, z1, g1, g2⟩ := hi.fr.ty _ _ _ _ h'; obtain ⟨v2, z2, g3, g4⟩ := f6 _ _ _ _ g1; exact ⟨v2, z2, g3, g4.trans g2⟩⟩
                ⟨by rw [f4]; exact Nat.le_refl _, fun B' _ hn' => f5 B' (fun e => hn' (e ▸ k2)), f6⟩
                (fun b B' hb => f5 B' (fun e => hi.mem.br b kk B' _ _ _ hb (e ▸ hk)))
                (fun k' B' s' z' n' hk' => f5 B' (fun e => by
                  have hk2 : (if k' = kk then none else C.row k') = some (some (B', s', z', n')) := hk'
                  split at hk2
                  · cases hk2
                  · rename_i hne; exact hne (hi.mem.rr k' kk B' _ _ _ _ _ _ hk2 (e ▸ hk))))
                (C.noR kk).ex (fun _ h => h) (fun _ h => .inl h) (fun B' hB' => by rw [f4]; exact hi.mem.lt B' hB')
            refine ⟨.string ⟨bs.toArray⟩, _, .inl ?_, C.noR kk, _, _, h, hI, .str _⟩
            simp only [execOp, resolve, Sem.run_bind, Sem.run_pure, Result.andThen_ok, invoke, builtin, e0]
            rw [Lib.run_unsafeString_row w pt it ty e hpt hce B vs.length hsh bs hb0 (by omega) hbl hcell]
            rfl
      · exact h.elim
    · exact h.elim
  · rename_i args ats hop
    obtain ⟨dst, op, ty, pos, aft, gd⟩ := o
    simp only at hop; subst hop
    obtain ⟨st', w', h1, h2, h3⟩ := clear_sound h hi rfl rfl ty
    refine ⟨.tuple #[], w', .inl ?_, C, _, _, h1, h3, .tup [] [] rfl (fun i g v hg => by cases hg)⟩
    simp only [execOp, resolve, Sem.run_bind, Sem.run_pure, Result.andThen_ok, invoke, builtin, h2]
  · exact xop_sound h hi
end
end Go.Proofs.YtcihkmnolagdlaaDoor.Av
