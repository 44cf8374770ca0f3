/- Pointers to variables of a known type, rows of bytes of a known type: what strings.Builder asks. No condition. -/
import Derived.Test.YtijohhdgecadnaaAv7c
import Derived.Lib.Builder
import Derived.Lib.UnsafeStr
namespace Go.Proofs.Ytijohhdgecadnaa.Av
open Go Go.RowKit
set_option linter.unusedVariables false
set_option linter.unusedSimpArgs false

def typedZ : List G → Option (List G)
  | [.lit (.pointer none), .nils] => some [.lit (.pointer none), .nilt]
  | _ => none
def okSz (P : Program) (t : TypeId) : Bool :=
  match P.info? t with
  | some j => !(Nat.beq j.size 0)
  | none => false
def allocT (P : Program) (d : Nat) (t : TypeId) (st : St) (k : G → St → Prop) : Prop :=
  match zeroCells P t with
  | some cs => match typedZ cs with
    | some cs' => bif Nat.blt d st.boxes.length && Nat.blt d st.slots.length then k (.ptrt d t cs'.length) (st.newBox d cs') else False
    | none => xop P d (.alloc t) st k
  | none => False
def convT (P : Program) (src dst : TypeId) (b : Nat) (T : TypeId) (n : Nat) (k : G → Prop) : Prop :=
  match P.underlying src, P.underlying dst with
  | some (.pointer t), some .unsafePointer => bif okSz P t && Nat.blt 0 n then k (.ptrt b T n) else False
  | some .unsafePointer, some (.pointer u) => bif (P.info? u).isSome then liesAt P P.depth T (n / P.cellsOf T) 0 u 1 = true ∧ k (.ptrt b T n) else False
  | _, _ => False
def dataT (gs : List G) (k : G → Prop) : Prop :=
  match gs with
  | [.nilt] => k (.lit (.pointer none))
  | [.ownt kk len T] => k (.datt kk T)
  | _ => False
def strT (P : Program) (gs : List G) (ts : List TypeId) (st : St) (k : G → St → Prop) : Prop :=
  match gs, ts with
  | [.lit (.pointer none), .int .i64 n], [_, _] => n = 0 ∧ k (.str ⟨#[]⟩) st
  | [.datt kk T, .int .i64 n], [pt, _] => match P.underlying pt, st.rows.getD kk none with
    | some (.pointer e), some xs => bif Nat.beq e T && Nat.beq (P.cellsOf e) 1 then
        ∃ bs : List UInt8, (n = (bs.length : Int) ∧ bs.length ≤ 9223372036854775807 ∧ xs.take bs.length = bs.map (fun b => [G.int .u8 b.toNat])) ∧ k (.str ⟨bs.toArray⟩) (st.killR kk)
      else False
    | _, _ => False
  | _, _ => False
/-- The operations of xop, and these. -/
def uop (P : Program) (d : Nat) (op : Op) (st : St) (k : G → St → Prop) : Prop :=
  match op with
  | .alloc t => allocT P d t st k
  | .convert src dst x => match st.ev x with
    | .ptrt b T n => convT P src dst b T n fun g => k g st
    | _ => xop P d (.convert src dst x) st k
  | .call { callee := .builtin .unsafeSliceData, args, .. } => dataT (args.toList.map st.ev) fun g => k g st
  | .call { callee := .builtin .unsafeString, args, argTypes } => strT P (args.toList.map st.ev) argTypes.toList st k
  | op => xop P d op st k

theorem freeze_facts (w : World) (B n : Nat) : (w.freeze ⟨B, 0, none⟩ n).os = w.os ∧ (w.freeze ⟨B, 0, none⟩ n).tape = w.tape ∧ (w.freeze ⟨B, 0, none⟩ n).output = w.output ∧ (w.freeze ⟨B, 0, none⟩ n).heap.size = w.heap.size ∧ (∀ k, k ≠ B → (w.freeze ⟨B, 0, none⟩ n).heap[k]? = w.heap[k]?) ∧
    ∀ (k : Nat) (vs : Array Value) (T : TypeId) (fz : Nat × Nat), w.heap[k]? = some (.cells vs T fz) → ∃ vs' fz', (w.freeze ⟨B, 0, none⟩ n).heap[k]? = some (.cells vs' T fz') ∧ vs'.size = vs.size := by
  unfold World.freeze
  split
  · exact ⟨rfl, rfl, rfl, rfl, fun _ _ => rfl, fun k vs T fz h => ⟨vs, fz, h, rfl⟩⟩
  · refine ⟨rfl, rfl, rfl, by simp, fun k hk => ?_, fun k vs T fz h => ?_⟩
    · simp only [Array.getElem?_modify]; rw [if_neg (fun e => hk e.symm)]
    · simp only [Array.getElem?_modify]
      by_cases e : B = k
      · rw [if_pos e, h]
        obtain ⟨lo, hi⟩ := fz
        exact ⟨vs, _, rfl, rfl⟩
      · rw [if_neg e]; exact ⟨vs, fz, h, rfl⟩
section
variable {P : Program} {C : Cx} {F : Fd} {st : St} {a : Act} {w : World}
theorem map_one {α β : Type} {f : α → β} {l : List α} {y : β} (h : l.map f = [y]) : ∃ X, l = [X] ∧ f X = y := by
  cases l with
  | nil => cases h
  | cons X l => cases l with
    | nil => simp at h; exact ⟨X, rfl, h⟩
    | cons _ _ => simp at h
theorem map_two {α β : Type} {f : α → β} {l : List α} {y z : β} (h : l.map f = [y, z]) : ∃ X Y, l = [X, Y] ∧ f X = y ∧ f Y = z := by
  cases l with
  | nil => cases h
  | cons X l =>
    rw [List.map_cons, List.cons.injEq] at h
    obtain ⟨Y, rfl, h2⟩ := map_one h.2
    exact ⟨X, Y, rfl, h.1, h2⟩
theorem typedZ_some {cs cs' : List G} (h : typedZ cs = some cs') : cs = [.lit (.pointer none), .nils] ∧ cs' = [.lit (.pointer none), .nilt] := by
  unfold typedZ at h
  split at h
  · cases h; exact ⟨rfl, rfl⟩
  · cases h
theorem allocT_sound {d : Nat} {t : TypeId} {k : G → St → Prop} {o : Oper} (ho : o.op = .alloc t) (h : allocT P d t st k) (hi : Inv C F st a w) : Goes P o a w (After F k a) := by
  unfold allocT at h
  split at h
  · rename_i cs hz
    split at h
    · rename_i cs' hty
      obtain ⟨rfl, rfl⟩ := typedZ_some hty
      cases hlt : Nat.blt d st.boxes.length && Nat.blt d st.slots.length with
      | false => rw [hlt] at h; exact h.elim
      | true =>
        rw [hlt] at h
        simp only [Bool.and_eq_true] at hlt
        have hsl := Nat.le_of_ble_eq_true hlt.2
        obtain ⟨z, h1, h2, _, h3, h4⟩ := zeroCells_sound hz w
        obtain ⟨C', hI, hb⟩ := hi.newBox d (cs := [.lit (.pointer none), .nilt]) (Nat.le_of_ble_eq_true hlt.1) (by omega) t (by rw [h2]; rfl) h3 (fun i g v hg hv => by
          match i, hg with
          | 0, hg => exact h4 C w 0 g v hg hv
          | 1, hg =>
            obtain rfl : G.nilt = g := by simpa using hg
            have := (h4 C w 1 .nils v rfl hv).2
            cases this
            exact ⟨rfl, .nilt⟩)
        refine ⟨.pointer (some ⟨w.heap.size, 0, none⟩), w.alloc (.cells z.cells t), .inl ?_, C', _, _, h, hI, .ptrt d t _ _ z.cells (0, 0) hb (heap_alloc_new w _) (by rw [← Array.length_toList, h2]; rfl)⟩
        obtain ⟨dst, op, ty, pos, aft, gd⟩ := o
        simp only at ho; subst ho
        simp [execOp, Instr.alloc, h1, newVar, newRow]
    · exact xop_sound (by rw [ho]; exact h) hi
  · exact h.elim
theorem convT_sound {src dst : TypeId} {b : Nat} {T : TypeId} {n : Nat} {k : G → Prop} (h : convT P src dst b T n k) {u : Value} (hx : Rep C w (.ptrt b T n) u) : ∃ g z, k g ∧ (convert src dst u).run P w = .ok z w ∧ Rep C w g z := by
  cases hx with
  | ptrt _ _ _ B vs fz hb ht hn =>
    have hsh : w.shape? B = some (T, vs.size) := by unfold World.shape?; rw [ht]
    unfold convT at h
    split at h
    · rename_i t hs hd
      cases hc : okSz P t && Nat.blt 0 n with
      | false => rw [hc] at h; exact h.elim
      | true =>
        rw [hc] at h
        simp only [Bool.and_eq_true] at hc
        have hn0 : 0 < n := Nat.le_of_ble_eq_true hc.2
        have hsz := hc.1
        unfold okSz at hsz
        split at hsz
        · rename_i j hj
          have hj0 : j.size ≠ 0 := fun e => by rw [e] at hsz; cases hsz
          exact ⟨_, _, h, Lib.run_to_unsafe (P := P) w ⟨B, 0, none⟩ hs hd hj hj0 hsh (by show 0 < vs.size; omega), .ptrt b T n B vs fz hb ht hn⟩
        · cases hsz
    · rename_i u hs hd
      cases hc : (P.info? u).isSome with
      | false => rw [hc] at h; exact h.elim
      | true =>
        rw [hc] at h
        obtain ⟨j, hj⟩ := Option.isSome_iff_exists.1 hc
        obtain ⟨hl, h⟩ := h
        exact ⟨_, _, h, Lib.run_from_unsafe (P := P) w ⟨B, 0, none⟩ hs hd hj hsh (by rw [hn]; exact hl), .ptrt b T n B vs fz hb ht hn⟩
    · exact h.elim
theorem uop_sound {o : Oper} {d : Nat} {k : G → St → Prop} (h : uop P d o.op st k) (hi : Inv C F st a w) : Goes P o a w (After F k a) := by
  unfold uop at h
  split at h
  · rename_i t hop
    exact allocT_sound hop h hi
  · rename_i src dst x hop
    split at h
    · rename_i b T n hx
      have hr := hi.ev x
      rw [hx] at hr
      obtain ⟨g, z, h1, h2, h3⟩ := convT_sound h hr
      exact ⟨z, w, .inl (by cases o; simp only at hop; subst hop; simp [execOp, h2]), after_same hi h1 h3⟩
    · exact xop_sound (by rw [hop]; exact h) hi
  · rename_i args ats hop
    unfold dataT at h
    split at h
    · rename_i heq
      obtain ⟨X, hX, hXe⟩ := map_one heq
      have hr := hi.ev X
      rw [hXe] at hr
      generalize hv : a.eval X = v at hr
      cases hr
      refine ⟨.pointer none, w, .inl ?_, after_same hi h (.lit _ rfl)⟩
      have e0 : args.map a.eval = #[.slice none 0 0] := by apply Array.toList_inj.1; simp [hX, hv]
      obtain ⟨dst, op, ty, pos, aft, gd⟩ := o
      simp only at hop; subst hop
      simp only [execOp, resolve, Sem.run_bind, Sem.run_pure, Result.andThen_ok, invoke, builtin, e0]
      rfl
    · rename_i kk len T heq
      obtain ⟨X, hX, hXe⟩ := map_one heq
      have hr := hi.ev X
      rw [hXe] at hr
      generalize hv : a.eval X = v at hr
      have e0 : args.map a.eval = #[v] := by apply Array.toList_inj.1; simp [hX, hv]
      obtain ⟨dst, op, ty, pos, aft, gd⟩ := o
      simp only at hop; subst hop
      cases hr with
      | ownt _ _ _ B n vs fz hk ho ht =>
        have hn : n ≠ 0 := by
          obtain ⟨xs, hxs⟩ := hi.mem.domR kk _ hk
          rcases hi.mem.row kk xs hxs with ⟨k1, _⟩ | ⟨B', s', sz', n', vs', T', fz', k1, _, _, _, k5, _⟩
          · rw [hk] at k1; cases k1
          · rw [hk] at k1; cases k1; omega
        refine ⟨.pointer (some ⟨B, 0, none⟩), w, .inl ?_, after_same hi h (.datt kk T B n vs fz hk ht)⟩
        simp only [execOp, resolve, Sem.run_bind, Sem.run_pure, Result.andThen_ok, invoke, builtin, e0]
        rw [Lib.run_unsafeSliceData_row w ats ty ⟨B, 0, none⟩ len n hn]
        rfl
      | owntnil _ _ hk =>
        refine ⟨.pointer none, w, .inl ?_, after_same hi h (.dattnil kk T hk)⟩
        simp only [execOp, resolve, Sem.run_bind, Sem.run_pure, Result.andThen_ok, invoke, builtin, e0]
        rfl
    · exact h.elim
  · rename_i args ats hop
    unfold strT at h
    split at h
    · rename_i n t1 t2 heq hts
      obtain ⟨X, Y, hX, hXe, hYe⟩ := map_two heq
      have hr := hi.ev X
      have hr2 := hi.ev Y
      rw [hXe] at hr
      rw [hYe] at hr2
      obtain ⟨rfl, h⟩ := h
      have e0 : args.map a.eval = #[.pointer none, .int .i64 0] := by
        apply Array.toList_inj.1
        have h1 : a.eval X = .pointer none := by generalize a.eval X = v at hr; cases hr; rfl
        simp [hX, h1, hr2.int_inv]
      have e1 : ats = #[t1, t2] := by apply Array.toList_inj.1; simpa using hts
      obtain ⟨dst, op, ty, pos, aft, gd⟩ := o
      simp only at hop; subst hop
      refine ⟨.string .empty, w, .inl ?_, after_same hi h (.str _)⟩
      subst e1
      simp only [execOp, resolve, Sem.run_bind, Sem.run_pure, Result.andThen_ok, invoke, builtin, e0]
      rw [Lib.run_unsafeString_none w t1 t2 ty none]
      rfl
    · rename_i kk T n pt it heq hts
      split at h
      · rename_i e xs hpt hxs
        cases hc : Nat.beq e T && Nat.beq (P.cellsOf e) 1 with
        | false => rw [hc] at h; exact h.elim
        | true =>
          rw [hc] at h
          simp only [Bool.and_eq_true] at hc
          obtain rfl := Nat.eq_of_beq_eq_true hc.1
          have hce := Nat.eq_of_beq_eq_true hc.2
          obtain ⟨bs, ⟨rfl, hbl, hbx⟩, h⟩ := h
          obtain ⟨X, Y, hX, hXe, hYe⟩ := map_two heq
          have hr := hi.ev X
          have hr2 := hi.ev Y
          rw [hXe] at hr
          rw [hYe] at hr2
          generalize hv : a.eval X = v at hr
          have e0 : args.map a.eval = #[v, .int .i64 (bs.length : Int)] := by
            apply Array.toList_inj.1
            simp [hX, hv, hr2.int_inv]
          have e1 : ats = #[pt, it] := by apply Array.toList_inj.1; simpa using hts
          have hkill := hi.killR kk
          obtain ⟨dst, op, ty, pos, aft, gd⟩ := o
          simp only at hop; subst hop
          subst e1
          have hnil : bs = [] → ∀ q, v = .pointer q → Goes P ⟨dst, .call { callee := .builtin .unsafeString, args, argTypes := #[pt, it] }, ty, pos, aft, gd⟩ a w (After F k a) := fun hb0 q hq => by
            subst hb0
            subst hq
            refine ⟨.string .empty, w, .inl ?_, C.noR kk, _, _, h, hkill, .str _⟩
            simp only [execOp, resolve, Sem.run_bind, Sem.run_pure, Result.andThen_ok, invoke, builtin, e0]
            rw [show ((([] : List UInt8).length : Nat) : Int) = 0 from rfl, Lib.run_unsafeString_none w pt it ty q]
            rfl
          cases hr with
          | dattnil _ _ hk =>
            refine hnil ?_ none rfl
            rcases hi.mem.row kk xs (rowsOf hxs) with ⟨_, rfl⟩ | ⟨B', s', sz', n', vs', T', fz', k1, _⟩
            · cases bs with
              | nil => rfl
              | cons b bs => simp at hbx
            · rw [hk] at k1; cases k1
          | datt _ _ B n vs0 fz0 hk ht =>
            by_cases hb0 : bs = []
            · exact hnil hb0 _ rfl
            rcases hi.mem.row kk xs (rowsOf hxs) with ⟨k1, _⟩ | ⟨B', s', sz', n', vs, T', fz, k1, k2, k3, k4, k5, k6, k6b, k7, k8⟩
            · rw [hk] at k1; cases k1
            rw [hk] at k1; cases k1
            rw [ht] at k3
            simp only [Option.some.injEq, Obj.cells.injEq] at k3
            obtain ⟨rfl, rfl, rfl⟩ := k3
            have hxl : bs.length ≤ xs.length := by
              have := congrArg List.length hbx
              rw [List.length_take, List.length_map] at this; omega
            have hsh : w.shape? B = some (e, vs.length) := by unfold World.shape?; rw [ht]; simp
            have hcell : ∀ j x, bs[j]? = some x → w.cell? ((⟨B, 0, none⟩ : Addr).add j) = some (.int .u8 x.toNat) := fun j x hj => by
              have hjl : j < bs.length := (List.getElem?_eq_some_iff.1 hj).1
              have hxj : xs[j]? = some [G.int .u8 x.toNat] := by
                have := congrArg (fun l => l[j]?) hbx
                simp only [List.getElem?_take, List.getElem?_map, hj] at this
                rw [if_pos hjl] at this
                simpa using this
              rw [addr_add, Nat.zero_add, cell_of_block ht]
              have hvl : j < vs.length := by omega
              have hvj : vs[0 + j * 1 + 0]? = some vs[j] := by rw [show 0 + j * 1 + 0 = j from by omega]; exact List.getElem?_eq_getElem hvl
              have := k8 j _ 0 _ _ hxj rfl hvj
              rw [List.getElem?_eq_getElem hvl, this.int_inv]
            obtain ⟨f1, f2, f3, f4, f5, f6⟩ := freeze_facts w B bs.length
            have hBt := hi.tr kk B 0 1 n hk
            have hI : Inv (C.noR kk) F (st.killR kk) a (w.freeze ⟨B, 0, none⟩ bs.length) :=
              hkill.step ⟨f1.trans hi.fr.os, f2.trans hi.fr.tape, f3.trans hi.fr.output, by rw [f4]; exact hi.fr.size, fun B' hB' hn' => by
                  rw [f5 B' (fun e => by subst e; rcases hBt with hBt | hBt; exact hn' hBt; omega)]; exact hi.fr.block B' hB' hn',
                  fun B' vs' T' fz' h' => by obtain ⟨v1, z1, g1, g2⟩ := hi.fr.ty _ _ _ _ h'; obtain ⟨v2, z2, g3, g4⟩ := f6 _ _ _ _ g1; exact ⟨v2, z2, g3, g4.trans g2⟩⟩
                ⟨by rw [f4]; exact Nat.le_refl _, fun B' _ hn' => f5 B' (fun e => hn' (e ▸ k2)), f6⟩
                (fun b B' hb => f5 B' (fun e => hi.mem.br b kk B' _ _ _ hb (e ▸ hk)))
                (fun k' B' s' z' n' hk' => f5 B' (fun e => by
                  have hk2 : (if k' = kk then none else C.row k') = some (some (B', s', z', n')) := hk'
                  split at hk2
                  · cases hk2
                  · rename_i hne; exact hne (hi.mem.rr k' kk B' _ _ _ _ _ _ hk2 (e ▸ hk))))
                (C.noR kk).ex (fun _ h => h) (fun _ h => .inl h) (fun B' hB' => by rw [f4]; exact hi.mem.lt B' hB')
            refine ⟨.string ⟨bs.toArray⟩, _, .inl ?_, C.noR kk, _, _, h, hI, .str _⟩
            simp only [execOp, resolve, Sem.run_bind, Sem.run_pure, Result.andThen_ok, invoke, builtin, e0]
            rw [Lib.run_unsafeString_row w pt it ty e hpt hce B vs.length hsh bs hb0 (by omega) hbl hcell]
            rfl
      · exact h.elim
    · exact h.elim
  · exact xop_sound h hi
end
end Go.Proofs.Ytijohhdgecadnaa.Av
