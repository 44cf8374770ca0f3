/- What an operation comes to, and code: an abstract weakest condition, and that it is one. No condition. -/
import Derived.Test.YtcihkmnolagdlaaDoorAv8s
import Derived.Test.YtcihkmnolagdlaaDoorAv7e
import Derived.Laws.Externs
namespace Go.Proofs.YtcihkmnolagdlaaDoor.Av
open Go Go.RowKit
set_option linter.unusedVariables false
set_option linter.unusedSimpArgs false

/-- A call of a Go function: by values; or its own things are lent, or handed by place. -/
def callP (P : Program) (d : Nat) (f : FuncId) (gs : List G) (st : St) (k : G → St → Prop) : Prop :=
  bif gs.all G.closed then (∃ g, Fv P f gs g ∧ bif g.closedR then k g st else False) ∨ placeP P d f gs st k
  else lendP P f gs st k ∨ placeP P d f gs st k
/-- A function without a body that hands its argument back. -/
def NoEsc (P : Program) (f : FuncId) : Prop := ∃ fn, P.funcs[f]? = some fn ∧ (fn.name == "runtime.NumGoroutine") = false ∧ fn.body.isNone = true ∧ Extern.findNext fn = none ∧ Extern.find fn = some Extern.AbiNoEscape.same
def isUns (P : Program) (ts : List TypeId) : Bool :=
  match ts with
  | [t] => match P.underlying t with
    | some .unsafePointer => true
    | _ => false
  | _ => false
def escP (P : Program) (f : FuncId) (gs : List G) (st : St) (k : G → St → Prop) : Prop :=
  match gs with
  | [g] => NoEsc P f ∧ k g st
  | _ => False
/-- The abstract law of an operation, calls too. -/
def cop (P : Program) (d : Nat) (o : Oper) (st : St) (k : G → St → Prop) : Prop :=
  match o.op with
  | .call { callee := .value f, args, argTypes } => match st.ev f with
    | .fn f caps => bif isUns P argTypes.toList then escP P f (args.toList.map st.ev ++ caps) st k else fS (args.toList.map st.ev ++ caps) fun gs => callP P d f gs st k
    | .meth f gs0 => fS (gs0 ++ args.toList.map st.ev) fun gs => callP P d f gs st k
    | _ => False
  | .call { callee := .builtin .append, args, argTypes } => match args.toList.map st.ev, argTypes[0]?, argTypes[1]? with
    | [s, x], some tS, some tX => appP P d s x tS tX st k
    | _, _, _ => False
  | .buildSlice t len parts => bif bldB o then bldP P d t len parts st k else uop P d (.buildSlice t len parts) st k
  | op => mop P d op st k

theorem St.put_len (st : St) (d : Option Tmp) (g : G) : (st.put d g).slots.length = st.slots.length := by cases d <;> simp [St.put]
theorem Inv.put {C : Cx} {F : Fd} {st : St} {a : Act} {w : World} (h : Inv C F st a w) (d : Option Tmp) {g : G} {v : Value} (hr : Rep C w g v) : Inv C F (st.put d g) (a.put d v) w := by
  cases d with
  | none => exact h
  | some d =>
    refine ⟨h.nd, by simp [St.put, Act.put, h.sz], fun i g' v' hg hv => ?_, h.mem, h.fr, h.ex0, h.exn, h.t0, h.tb, h.tr, fun b B hb => ⟨(h.fb b B hb).1, by rw [St.put_len]; exact (h.fb b B hb).2⟩⟩
    simp only [St.put, Act.put, List.getElem?_set, Array.getElem?_setIfInBounds] at hg hv
    by_cases e : d = i
    · subst e
      rw [if_pos rfl] at hg hv
      split at hg
      · rename_i hlt
        rw [if_pos (by rw [h.sz]; exact hlt)] at hv
        cases hg; cases hv; exact hr
      · cases hg
    · rw [if_neg e] at hg hv
      exact h.slots i g' v' hg hv

theorem resolve_fn {P : Program} {w : World} {ρ : Operand → Value} {f : Operand} {args : Array Operand} {ats : Array TypeId} {ty : TypeId} {n : FuncId} {caps : Array Value} (hf : ρ f = .func (.func n) #[] caps) :
    (resolve ρ { callee := .value f, args, argTypes := ats } ty).run P w = .ok { target := .fn (.func n) caps, args := args.map ρ } w := by
  unfold resolve
  simp only [hf, Deferred.ofValue, Sem.run_pure]
  simp
theorem resolve_meth {P : Program} {w : World} {ρ : Operand → Value} {f : Operand} {args : Array Operand} {ats : Array TypeId} {ty : TypeId} {n : FuncId} {first : Array Value} (hf : ρ f = .func (.func n) first #[]) :
    (resolve ρ { callee := .value f, args, argTypes := ats } ty).run P w = .ok { target := .fn (.func n) #[], args := first ++ args.map ρ } w := by
  unfold resolve
  simp only [hf, Deferred.ofValue, Sem.run_pure]
theorem run_callFunc {P : Program} {f : FuncId} (h : hasBody P f = true) (args : Array Value) (w : World) : (callFunc f args).run P w = .ok (.enter f args) w := by
  unfold hasBody at h
  split at h
  · rename_i fn hfn
    simp only [Bool.and_eq_true, bne_iff_ne] at h
    unfold callFunc
    simp only [Sem.run_bind, run_program, Result.andThen_ok, hfn]
    have h2 : fn.body.isNone = false := by
      cases hb : fn.body with
      | none => rw [hb] at h; simp at h
      | some _ => rfl
    simp [h.1, h2]
  · cases h

theorem call_sound {P : Program} {f : FuncId} {d : Nat} {gs : List G} {st : St} {k : G → St → Prop} {C : Cx} {F : Fd} {a : Act} {w : World} (h : callP P d f gs st k) (hi : Inv C F st a w) {vs : List Value} (hl : vs.length = gs.length)
    (hr : ∀ (i : Nat) g v, gs[i]? = some g → vs[i]? = some v → Rep C w g v) : hasBody P f = true ∧ Calls P f ⟨vs⟩ w fun e w' => ∃ v, e = .returned v ∧ After F k a v w' := by
  unfold callP at h
  cases hc : gs.all G.closed with
  | false =>
    rw [hc] at h
    rcases h with h | h
    · exact lend_sound h hi hl hr
    · exact place_sound h hi hl hr
  | true =>
    rw [hc] at h
    rcases h with h | h
    case inr => exact place_sound h hi hl hr
    obtain ⟨g, ⟨hb, hF⟩, h⟩ := h
    refine ⟨hb, ?_⟩
    cases hg : g.closedR with
    | false => rw [hg] at h; exact h.elim
    | true =>
      rw [hg] at h
      simp only [List.all_eq_true] at hc
      let C0 : Cx := { box := fun _ => none, row := fun _ => none, ex := C.ex }
      refine (hF C0 w (fun _ => False) _ hl (fun i g' v' hg' hv' => (hr i g' v' hg' hv').closed (hc _ (List.mem_of_getElem? hg')) (Keeps.refl _ _) (fun _ _ h => h)) (mem0 w C.ex hi.mem.lt) (fun _ h => h.elim) (fun _ _ h => (by cases h)) (fun _ _ _ _ _ h => (by cases h)) hi.fixed).mono fun e w' he => ?_
      obtain ⟨v, C', g', bs', rs', rfl, ⟨rfl, rfl, rfl⟩, hR, hM, hE⟩ := he
      refine ⟨v, rfl, C, g', st, h, ?_, ?_⟩
      · have hKeeps : Keeps C.ex w w' := ⟨hE.fr.size, fun B hB _ => hE.fr.block B hB (fun h => h), hE.fr.ty⟩
        have hlt : ∀ B, C.ex B → w'.heap[B]? = w.heap[B]? := fun B hB => hE.fr.block B (hi.mem.lt B hB) (fun h => h)
        exact hi.step ⟨hE.fr.os.trans hi.fr.os, hE.fr.tape.trans hi.fr.tape, hE.fr.output.trans hi.fr.output, Nat.le_trans hi.fr.size hE.fr.size, fun B hB hn => (hE.fr.block B (by have := hi.fr.size; omega) (fun h => h)).trans (hi.fr.block B hB hn), hi.fr.ty2 hE.fr⟩
          hKeeps (fun b B hB => hlt B (hi.mem.ltB hB)) (fun k B s sz n hk => hlt B (hi.mem.ltR hk)) C.ex (fun _ h => h) (fun _ h => .inl h) (fun B hB => by have := hi.mem.lt B hB; have := hE.fr.size; omega)
      · exact hR.closedR hg (Keeps.refl _ _) (fun B hB hn hx => hn (hE.ex B hx))

theorem cop_sound {P : Program} {o : Oper} {d : Nat} {st : St} {k : G → St → Prop} {C : Cx} {F : Fd} {a : Act} {w : World} (h : cop P d o st k) (hi : Inv C F st a w) {K : Act → World → Prop} {Q : Exit → Act → World → Prop}
    (hk : ∀ v w', After F k a v w' → K (a.put o.dst v) w') : o.wp P a w K Q := by
  unfold cop at h
  split at h
  · rename_i f args ats hop
    split at h
    · rename_i n caps hf
      cases hu : isUns P ats.toList with
      | true =>
        rw [hu] at h
        simp only [cond_true] at h
        unfold escP at h
        split at h
        · rename_i g heq
          obtain ⟨⟨fn, h1, h2, h3, h4, h5⟩, h⟩ := h
          have hr := hi.ev f
          rw [hf] at hr
          generalize hv : a.eval f = v at hr
          cases hr with
          | fn _ _ vs hl hcap =>
            have one : ∃ u, args.toList.map a.eval ++ vs = [u] ∧ Rep C w g u := by
              have hlen : (args.toList.map a.eval ++ vs).length = 1 := by
                have := congrArg List.length heq
                simp only [List.length_append, List.length_map, List.length_cons, List.length_nil] at this ⊢
                omega
              match hq : args.toList.map a.eval ++ vs, hlen with
              | [u], _ =>
                refine ⟨u, rfl, ?_⟩
                by_cases hlt : 0 < args.toList.length
                · obtain ⟨x, xs, hx⟩ : ∃ x xs, args.toList = x :: xs := by cases hl : args.toList with | nil => rw [hl] at hlt; simp at hlt | cons x xs => exact ⟨x, xs, rfl⟩
                  rw [hx] at heq hq
                  simp only [List.map_cons, List.cons_append, List.cons.injEq] at heq hq
                  rw [← heq.1, ← hq.1]; exact hi.ev x
                · have hx : args.toList = [] := List.length_eq_zero_iff.1 (by omega)
                  rw [hx] at heq hq
                  simp only [List.map_nil, List.nil_append] at heq hq
                  exact hcap 0 g u (by rw [heq]; rfl) (by rw [hq]; rfl)
            obtain ⟨u, hu1, hu2⟩ := one
            refine Goes.wp (R := After F k a) ⟨u, w, .inl ?_, C, g, st, h, hi, hu2⟩ hk
            obtain ⟨dst, op, ty, pos, aft, gd⟩ := o
            simp only at hop; subst hop
            simp only [execOp]
            rw [Sem.run_bind, resolve_fn hv, Result.andThen_ok]
            simp only [invoke]
            rw [run_callFunc_extern h1 h2 h3 h4 h5]
            have e1 : args.map a.eval ++ (⟨vs⟩ : Array Value) = #[u] := by apply Array.toList_inj.1; simpa using hu1
            rw [e1, Lib.run_noEscape]; rfl
        · exact h.elim
      | false =>
      rw [hu] at h
      simp only [cond_false] at h
      rw [fS_eq] at h
      have hr := hi.ev f
      rw [hf] at hr
      generalize hv : a.eval f = v at hr
      cases hr with
      | fn _ _ vs hl hcap =>
        obtain ⟨hb, hcall⟩ := call_sound h hi (vs := args.toList.map a.eval ++ vs) (by simp [hl]) (fun i g' v' hg' hv' => by
          by_cases hlt : i < args.toList.length
          · rw [List.getElem?_append_left (by simpa using hlt)] at hg' hv'
            rw [List.getElem?_map] at hg' hv'
            obtain ⟨x, hx, rfl⟩ := Option.map_eq_some_iff.1 hg'
            rw [hx] at hv'
            obtain rfl := Option.some.inj hv'
            exact hi.ev x
          · rw [List.getElem?_append_right (by simp at hlt ⊢; omega)] at hg' hv'
            simp only [List.length_map] at hg' hv'
            exact hcap _ g' v' hg' hv')
        unfold Oper.wp
        have e0 : (execOp a.eval o).run P w = .ok (.enter n (⟨args.toList.map a.eval ++ vs⟩)) w := by
          obtain ⟨dst, op, ty, pos, aft, gd⟩ := o
          simp only at hop; subst hop
          simp only [execOp]
          rw [Sem.run_bind, resolve_fn hv, Result.andThen_ok]
          simp only [invoke]
          rw [run_callFunc hb]
          congr 2
          apply Array.toList_inj.1; simp
        rw [e0]
        simp only [Oper.upon]
        refine hcall.mono fun e w' ⟨v, he, hA⟩ => ?_
        subst he
        exact hk v w' hA
    · rename_i n gs0 hf
      rw [fS_eq] at h
      have hr := hi.ev f
      rw [hf] at hr
      generalize hv : a.eval f = v at hr
      cases hr with
      | meth _ _ vs hl hcap =>
        obtain ⟨hb, hcall⟩ := call_sound h hi (vs := vs ++ args.toList.map a.eval) (by simp [hl]) (fun i g' v' hg' hv' => by
          by_cases hlt : i < gs0.length
          · rw [List.getElem?_append_left hlt] at hg'
            rw [List.getElem?_append_left (by rw [hl]; exact hlt)] at hv'
            exact hcap _ g' v' hg' hv'
          · rw [List.getElem?_append_right (by omega)] at hg'
            rw [List.getElem?_append_right (by rw [hl]; omega), hl] at hv'
            rw [List.getElem?_map] at hg' hv'
            obtain ⟨x, hx, rfl⟩ := Option.map_eq_some_iff.1 hg'
            rw [hx] at hv'
            obtain rfl := Option.some.inj hv'
            exact hi.ev x)
        unfold Oper.wp
        have e0 : (execOp a.eval o).run P w = .ok (.enter n (⟨vs ++ args.toList.map a.eval⟩)) w := by
          obtain ⟨dst, op, ty, pos, aft, gd⟩ := o
          simp only at hop; subst hop
          simp only [execOp]
          rw [Sem.run_bind, resolve_meth hv, Result.andThen_ok]
          simp only [invoke]
          rw [run_callFunc hb]
          congr 2
          apply Array.toList_inj.1; simp
        rw [e0]
        simp only [Oper.upon]
        refine hcall.mono fun e w' ⟨v, he, hA⟩ => ?_
        subst he
        exact hk v w' hA
    · exact h.elim
  · rename_i args ats hop
    split at h
    · rename_i s x tS tX heq ht0 ht1
      obtain ⟨X, Y, hX, rfl, rfl⟩ : ∃ X Y, args.toList = [X, Y] ∧ st.ev X = s ∧ st.ev Y = x := by
        match hq : args.toList, heq with
        | [X, Y], heq => simp at heq; exact ⟨X, Y, rfl, heq.1, heq.2⟩
      obtain ⟨z, w', h1, h2⟩ := app_sound h hi (hi.ev X) (hi.ev Y) (argTypes := ats) (ty := o.type) ht0 ht1
      refine Goes.wp (R := After F k a) ⟨z, w', .inl ?_, h2⟩ hk
      obtain ⟨dst, op, ty, pos, aft, gd⟩ := o
      simp only at hop; subst hop
      have e1 : args.map a.eval = #[a.eval X, a.eval Y] := by apply Array.toList_inj.1; simp [hX]
      simp only [execOp, resolve, Sem.run_bind, Sem.run_pure, Result.andThen_ok, invoke, builtin, e1]
      simp only at h1
      rw [h1]; rfl
    · exact h.elim
  · rename_i t len parts hop
    cases hb : bldB o with
    | true =>
      rw [hb] at h
      obtain ⟨z, w', h1, h2⟩ := bld_sound h hi
      refine Goes.wp (R := After F k a) ⟨z, w', .inl ?_, h2⟩ hk
      obtain ⟨dst, op, ty, pos, aft, gd⟩ := o
      simp only at hop; subst hop
      simp only [execOp]; exact run_bind_ok h1
    | false =>
      rw [hb] at h
      exact (uop_sound (by rw [hop]; exact h) hi).wp hk
  · exact (mop_sound h hi).wp hk

noncomputable def dstAt (l : List Oper) : Nat → Option Tmp := List.rec (motive := fun _ => Nat → Option Tmp) (fun _ => none) (fun o _ ih n => Nat.rec (motive := fun _ => Option Tmp) o.dst (fun m _ => ih m) n) l
theorem dstAt_list : ∀ (l : List Oper) (j : Nat), dstAt l j = (l[j]?).bind (·.dst)
  | [], j => by show none = _; simp
  | o :: r, 0 => by show o.dst = _; simp
  | o :: r, n + 1 => by show dstAt r n = _; simp [dstAt_list r n]
theorem dstAt_eq (ops : Array Oper) (j : Nat) : dstAt ops.toList j = (ops[j]?).bind (·.dst) := by rw [dstAt_list]; simp

/-- Operations that leave variables and rows as they are. -/
def stills : Op → Bool
  | .alloc _ | .box .. | .store .. | .makeSlice .. | .call { callee := .builtin .append, .. } | .call { callee := .builtin .unsafeString, .. } | .call { callee := .builtin .clear, .. } | .call { callee := .builtin .delete, .. } | .makeMap .. | .mapUpdate .. | .insert .. => false
  | .buildSlice _ len _ => !(bldK.any fun p => Nat.beq p.2 len)
  | _ => true
/-- Operations one behind the other. A test by which an operation is guarded is told in each branch. -/
def aopsF (P : Program) (ops : Array Oper) (o : Oper) (ih : St → (St → Prop) → Prop) (st : St) (K : St → Prop) : Prop :=
    match o.guard with
    | none => cop P (o.dst.getD 0) o st fun g st' => st'.next (stills o.op) o.dst g fun st' => ih st' K
    | some (j, want) => match dstAt ops.toList j with
      | none => False
      | some t => match st.slots.getD t .junk with
        | .bool b => bif b then (bif want then st.next true (some t) (.bool true) fun st => cop P (o.dst.getD 0) o st fun g st' => st'.next (stills o.op) o.dst g fun st' => ih st' K else (st.put (some t) (.bool true)).next true o.dst .und fun st' => ih st' K)
            else (bif want then (st.put (some t) (.bool false)).next true o.dst .und fun st' => ih st' K else st.next true (some t) (.bool false) fun st => cop P (o.dst.getD 0) o st fun g st' => st'.next (stills o.op) o.dst g fun st' => ih st' K)
        | .und => st.next true o.dst .und fun st' => ih st' K
        | _ => False
/-- (By the recursor itself: what Lean's front works out, and what the kernel does, then is the same term.) -/
def aops (P : Program) (ops : Array Oper) (l : List Oper) : St → (St → Prop) → Prop :=
  List.rec (motive := fun _ => St → (St → Prop) → Prop) (fun st K => st.force K) (fun o _ ih => aopsF P ops o ih) l

theorem Inv.slot {C : Cx} {F : Fd} {st : St} {a : Act} {w : World} (h : Inv C F st a w) {t : Nat} {b : Bool} (hs : st.slots.getD t .junk = .bool b) : st.slots[t]? = some (.bool b) ∧ a.tmps[t]? = some (.bool b) := by
  rw [List.getD_eq_getElem?_getD] at hs
  cases hx : st.slots[t]? with
  | none => rw [hx] at hs; cases hs
  | some g =>
    rw [hx] at hs
    obtain rfl : g = .bool b := hs
    have hlt : t < a.tmps.size := by rw [h.sz]; exact (List.getElem?_eq_some_iff.1 hx).1
    have hv : a.tmps[t]? = some a.tmps[t] := Array.getElem?_eq_getElem hlt
    refine ⟨rfl, ?_⟩
    rw [hv, (h.slots t _ _ hx hv).bool_inv]

theorem Inv.undAt {C : Cx} {F : Fd} {st : St} {a : Act} {w : World} (h : Inv C F st a w) {t : Nat} (hs : st.slots.getD t .junk = .und) : a.tmps[t]? = some undef := by
  rw [List.getD_eq_getElem?_getD] at hs
  cases hx : st.slots[t]? with
  | none => rw [hx] at hs; cases hs
  | some g =>
    rw [hx] at hs
    simp at hs
    subst hs
    have hlt : t < a.tmps.size := by rw [h.sz]; exact (List.getElem?_eq_some_iff.1 hx).1
    have hr := h.slots t _ a.tmps[t] hx (Array.getElem?_eq_getElem hlt)
    rw [Array.getElem?_eq_getElem hlt]
    generalize a.tmps[t] = v at hr
    cases hr
    rfl
theorem Inv.same {C : Cx} {F : Fd} {st : St} {a : Act} {w : World} (h : Inv C F st a w) {t : Nat} {b : Bool} (hs : st.slots.getD t .junk = .bool b) : Inv C F (st.put (some t) (.bool b)) a w := by
  obtain ⟨h1, _⟩ := h.slot hs
  have e : st.put (some t) (.bool b) = st := by
    unfold St.put
    have : st.slots.set t (.bool b) = st.slots := by
      apply List.ext_getElem?
      intro i
      by_cases e : t = i
      · subst e; rw [List.getElem?_set_self (List.getElem?_eq_some_iff.1 h1).1, h1]
      · rw [List.getElem?_set_ne e]
    simp only [this]
  rw [e]; exact h

theorem aops_sound {P : Program} {ops : Array Oper} {F : Fd} {K : St → Prop} {Q : Exit → Act → World → Prop} (hQ : ∀ C st a w, K st → Inv C F st a w → Q .normal a w) :
    ∀ (l : List Oper) (st : St) (C : Cx) (a : Act) (w : World), aops P ops l st K → Inv C F st a w → wpList P ops Q l a w
  | [], st, C, a, w, h, hi => hQ C st a w (by change st.force K at h; rwa [St.force_eq] at h) hi
  | o :: rest, st, C, a, w, h, hi => by
    have ih := aops_sound hQ (P := P) (ops := ops) rest
    have run : ∀ st : St, Inv C F st a w → cop P (o.dst.getD 0) o st (fun g st' => aops P ops rest (st'.put o.dst g) K) → o.wp P a w (wpList P ops Q rest) Q := fun st hi h =>
      cop_sound h hi fun v w' ⟨C', g, st', h1, h2, h3⟩ => ih (st'.put o.dst g) C' (a.put o.dst v) w' h1 (h2.put o.dst h3)
    change aopsF P ops o (aops P ops rest) st K at h
    unfold aopsF at h
    simp only [St.next_eq] at h
    unfold wpList
    split at h
    · rename_i hg
      rw [if_pos (by simp [Region.wanted, hg])]
      exact .inl (run st hi h)
    · rename_i j want hg
      split at h
      · exact h.elim
      · rename_i t ht
        rw [dstAt_eq] at ht
        split at h
        · rename_i b hs
          have hy : yielded ops a.tmps j = some b := by
            unfold yielded
            rw [ht]; simp only [Option.bind_some, (hi.slot hs).2]
          cases b <;> cases want <;> simp only [cond_true, cond_false] at h
          · rw [if_pos (by simp [Region.wanted, hg, hy])]
            exact .inl (run _ (hi.same hs) h)
          · rw [if_neg (by simp [Region.wanted, hg, hy])]
            exact ih _ C _ w h ((hi.same hs).put o.dst .und)
          · rw [if_neg (by simp [Region.wanted, hg, hy])]
            exact ih _ C _ w h ((hi.same hs).put o.dst .und)
          · rw [if_pos (by simp [Region.wanted, hg, hy])]
            exact .inl (run _ (hi.same hs) h)
        · rename_i hs
          have hy : yielded ops a.tmps j = none := by
            unfold yielded
            rw [ht]
            simp only [Option.bind_some]
            rw [hi.undAt hs]; rfl
          rw [if_neg (by simp [Region.wanted, hg, hy])]
          exact ih _ C _ w h (hi.put o.dst .und)
        · exact h.elim

/-- From the state st the code comes to K, on the machine. -/
def HasD (P : Program) (c : Code) (st : St) (K : Exit → St → Prop) : Prop :=
  ∀ (C : Cx) (F : Fd) (a : Act) (w : World), Inv C F st a w → c.wp P (fun e a' w' => ∃ C' st', K e st' ∧ Inv C' F st' a' w') a w

theorem HasD.mono {P : Program} {c : Code} {st : St} {K K' : Exit → St → Prop} (h : HasD P c st K) (hk : ∀ e st, K e st → K' e st) : HasD P c st K' :=
  fun C F a w hi => wp_mono (h C F a w hi) fun e a' w' ⟨C', st', h1, h2⟩ => ⟨C', st', hk e st' h1, h2⟩
theorem HasD.seq {P : Program} {x y : Code} {st : St} {K : Exit → St → Prop} (h : HasD P x st fun e st' => match e with | .normal => HasD P y st' K | e => K e st') : HasD P (.seq x y) st K :=
  fun C F a w hi => wp_seq (wp_mono (h C F a w hi) fun e a' w' ⟨C', st', h1, h2⟩ => by
    cases e with
    | normal => exact h1 C' F a' w' h2
    | _ => exact ⟨C', st', h1, h2⟩)
theorem HasD.block {P : Program} {id : Nat} {c : Code} {st : St} {K : Exit → St → Prop} (h : HasD P c st fun e st' => match e with | .exit id' => if id' = id then K .normal st' else K (.exit id') st' | e => K e st') : HasD P (.block id c) st K :=
  fun C F a w hi => wp_block (wp_mono (h C F a w hi) fun e a' w' ⟨C', st', h1, h2⟩ => by
    cases e with
    | exit id' =>
      simp only [Exit.inBlock]
      simp only at h1
      split
      · rename_i e; rw [if_pos e] at h1; exact ⟨C', st', h1, h2⟩
      · rename_i e; rw [if_neg e] at h1; exact ⟨C', st', h1, h2⟩
    | _ => exact ⟨C', st', h1, h2⟩)
theorem HasD.cond {P : Program} {c : Operand} {x y : Code} {st : St} {K : Exit → St → Prop} {t : Bool} (hc : st.ev c = .bool t) (h1 : t = true → HasD P x st K) (h2 : t = false → HasD P y st K) : HasD P (.cond c x y) st K :=
  fun C F a w hi => by
    have hr := hi.ev c
    rw [hc] at hr
    exact wp_cond_split hr.bool_inv (fun e => h1 e C F a w hi) (fun e => h2 e C F a w hi)
theorem HasD.region {P : Program} {id : Nat} {ops : Array Oper} {st : St} {K : Exit → St → Prop} (h : aops P ops ops.toList st (K .normal)) : HasD P (.region id ops false) st K :=
  fun C F a w hi => wp_region_list (aops_sound (fun C st a w h1 h2 => ⟨C, st, h1, h2⟩) ops.toList st C a w h hi)

/-- Slots that are looked at no more. -/
def keepAt (L : List Nat) : Nat → List G → List G
  | _, [] => []
  | i, g :: gs => (bif L.contains i then g else .junk) :: keepAt L (i + 1) gs
def St.keep (st : St) (L : List Nat) : St := { st with slots := keepAt L 0 st.slots }
theorem keepAt_len (L : List Nat) : ∀ (gs : List G) (i : Nat), (keepAt L i gs).length = gs.length
  | [], _ => rfl
  | g :: gs, i => by simp [keepAt, keepAt_len L gs (i + 1)]
theorem keepAt_get (L : List Nat) : ∀ (gs : List G) (i j : Nat) (g : G), (keepAt L i gs)[j]? = some g → g = .junk ∨ gs[j]? = some g
  | [], i, j, g, h => by simp [keepAt] at h
  | x :: gs, i, 0, g, h => by
    simp only [keepAt, List.getElem?_cons_zero, Option.some.injEq] at h
    cases hc : L.contains i with
    | true => rw [hc] at h; exact .inr (by simpa using h)
    | false => rw [hc] at h; exact .inl h.symm
  | x :: gs, i, j + 1, g, h => by
    simp only [keepAt, List.getElem?_cons_succ] at h
    simpa using keepAt_get L gs (i + 1) j g h
theorem Inv.keep {C : Cx} {F : Fd} {st : St} {a : Act} {w : World} (h : Inv C F st a w) (L : List Nat) : Inv C F (st.keep L) a w :=
  ⟨h.nd, by simp [St.keep, keepAt_len, h.sz], fun i g v hg hv => by
    rcases keepAt_get L _ _ _ _ hg with rfl | hg
    · exact .junk _
    · exact h.slots i g v hg hv, h.mem, h.fr, h.ex0, h.exn, h.t0, h.tb, h.tr, fun b B hb => ⟨(h.fb b B hb).1, by show (keepAt L 0 st.slots).length + 8 ≤ b; rw [keepAt_len]; exact (h.fb b B hb).2⟩⟩

/-- A loop: J tells the states at its head, with a number that goes down; slots beside L are looked at no more. -/
theorem HasD.loop {P : Program} {c : Code} {st : St} {K : Exit → St → Prop} (L : List Nat) (J : Nat → St → Prop) (n : Nat) (h0 : J n (st.keep L))
    (h : ∀ n st, J n st → HasD P c st fun e st' => match e with | .normal => ∃ m, m < n ∧ J m (st'.keep L) | e => K e st') : HasD P (.loop c) st K := by
  intro C F a w hi
  have key : ∀ n C a w st, J n st → Inv C F st a w → (Code.rounds P c (fun e a' w' => ∃ C' st', K e st' ∧ Inv C' F st' a' w') (n + 1) a w) := by
    intro n
    induction n using Nat.strongRecOn with
    | _ n ih =>
      intro C a w st hJ hi
      rw [rounds_succ]
      refine wp_mono (h n st hJ C F a w hi) fun e a' w' ⟨C', st', h1, h2⟩ => ?_
      cases e with
      | normal =>
        obtain ⟨m, hm, hJ'⟩ := h1
        have := ih m hm C' a' w' _ hJ' (h2.keep L)
        show Code.rounds P c _ n a' w'
        have up : ∀ (m n : Nat) (a : Act) (w : World), m ≤ n → Code.rounds P c (fun e a' w' => ∃ C' st', K e st' ∧ Inv C' F st' a' w') m a w → Code.rounds P c (fun e a' w' => ∃ C' st', K e st' ∧ Inv C' F st' a' w') n a w := by
          intro m
          induction m with
          | zero => intro n a w _ h; exact h.elim
          | succ m ihm =>
            intro n a w hle h
            obtain ⟨n, rfl⟩ : ∃ q, n = q + 1 := ⟨n - 1, by omega⟩
            refine wp_mono h fun e a w he => ?_
            cases e with
            | normal => exact ihm n a w (by omega) he
            | _ => exact he
        exact up (m + 1) n a' w' (by omega) this
      | _ => exact ⟨C', st', h1, h2⟩
  exact wp_loop_rounds (n + 1) (key n C a w _ h0 (hi.keep L))

/-- The same, as a thing that the walk does not take apart. -/
structure Has (P : Program) (c : Code) (st : St) (K : Exit → St → Prop) : Prop where
  out : HasD P c st K
theorem Has.mono {P : Program} {c : Code} {st : St} {K K' : Exit → St → Prop} (h : Has P c st K) (hk : ∀ e st, K e st → K' e st) : Has P c st K' := ⟨h.out.mono hk⟩
theorem Has.loop {P : Program} {c : Code} {st : St} {K : Exit → St → Prop} (L : List Nat) (J : Nat → St → Prop) (n : Nat) (h0 : J n (st.keep L))
    (h : ∀ n st, J n st → Has P c st fun e st' => match e with | .normal => ∃ m, m < n ∧ J m (st'.keep L) | e => K e st') : Has P (.loop c) st K := ⟨HasD.loop L J n h0 fun n st hJ => (h n st hJ).out⟩
/-- Own things given up: variable b, or (from 1000 on) row b - 1000. -/
def St.drop (s : St) (b : Nat) : St := bif Nat.blt b 1000 then bif Nat.blt b (s.slots.length + 8) then s.killB b else s else s.killR (b - 1000)
/-- The state at a loop's head: slots beside L are looked at no more, variables of D are forgotten. -/
def St.at (st : St) (L D : List Nat) : St := D.foldl (fun s b => s.drop b) (st.keep L)
theorem Inv.at {C : Cx} {F : Fd} {st : St} {a : Act} {w : World} (h : Inv C F st a w) (L D : List Nat) : ∃ C', Inv C' F (st.at L D) a w := by
  unfold St.at
  have key : ∀ (D : List Nat) (st : St) (C : Cx), Inv C F st a w → ∃ C', Inv C' F (D.foldl (fun s b => s.drop b) st) a w := by
    intro D
    induction D with
    | nil => intro st C h; exact ⟨C, h⟩
    | cons b D ih =>
      intro st C h
      rw [List.foldl_cons]
      unfold St.drop
      cases hr : Nat.blt b 1000 with
      | false => exact ih _ _ (h.killR (b - 1000))
      | true =>
        cases hb : Nat.blt b (st.slots.length + 8) with
        | true => exact ih _ _ (h.killB b (Nat.le_of_ble_eq_true hb))
        | false => exact ih _ _ h
  exact key D _ C (h.keep L)
theorem Has.loopD {P : Program} {c : Code} {st : St} {K : Exit → St → Prop} (L D : List Nat) (J : Nat → St → Prop) (n : Nat) (h0 : J n (st.at L D))
    (h : ∀ n st, J n st → Has P c st fun e st' => match e with | .normal => ∃ m, m < n ∧ J m (st'.at L D) | e => K e st') : Has P (.loop c) st K := by
  refine ⟨fun C F a w hi => ?_⟩
  have key : ∀ n C a w st, J n st → Inv C F st a w → (Code.rounds P c (fun e a' w' => ∃ C' st', K e st' ∧ Inv C' F st' a' w') (n + 1) a w) := by
    intro n
    induction n using Nat.strongRecOn with
    | _ n ih =>
      intro C a w st hJ hi
      rw [rounds_succ]
      refine wp_mono ((h n st hJ).out C F a w hi) fun e a' w' ⟨C', st', h1, h2⟩ => ?_
      cases e with
      | normal =>
        obtain ⟨m, hm, hJ'⟩ := h1
        obtain ⟨C2, h2'⟩ := h2.at L D
        have := ih m hm C2 a' w' _ hJ' h2'
        show Code.rounds P c _ n a' w'
        have up : ∀ (m n : Nat) (a : Act) (w : World), m ≤ n → Code.rounds P c (fun e a' w' => ∃ C' st', K e st' ∧ Inv C' F st' a' w') m a w → Code.rounds P c (fun e a' w' => ∃ C' st', K e st' ∧ Inv C' F st' a' w') n a w := by
          intro m
          induction m with
          | zero => intro n a w _ h; exact h.elim
          | succ m ihm =>
            intro n a w hle h
            obtain ⟨n, rfl⟩ : ∃ q, n = q + 1 := ⟨n - 1, by omega⟩
            refine wp_mono h fun e a w he => ?_
            cases e with
            | normal => exact ihm n a w (by omega) he
            | _ => exact he
        exact up (m + 1) n a' w' (by omega) this
      | _ => exact ⟨C', st', h1, h2⟩
  obtain ⟨C2, h2⟩ := hi.at L D
  exact wp_loop_rounds (n + 1) (key n C2 a w _ h0 h2)
theorem cond_f {b : Bool} {A : Prop} (h : b = false) (hA : A) : cond b False A := by rw [h]; exact hA
theorem cond_t {b : Bool} {A : Prop} (h : b = true) (hA : A) : cond b A False := by rw [h]; exact hA
theorem cond_i {t : Bool} {A B : Prop} (h1 : t = true → A) (h2 : t = false → B) : cond t A B := by cases t; exact h2 rfl; exact h1 rfl
end Go.Proofs.YtcihkmnolagdlaaDoor.Av
