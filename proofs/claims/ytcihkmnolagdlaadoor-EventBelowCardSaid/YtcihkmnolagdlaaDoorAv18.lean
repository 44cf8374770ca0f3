/- A closure's variable, lent: a contract for a place that is nobody's serves for an own variable. No condition. -/
import Derived.Test.YtcihkmnolagdlaaDoorAv16
namespace Go.Proofs.YtcihkmnolagdlaaDoor.Av
open Go Go.RowKit
set_option linter.unusedVariables false
set_option linter.unusedSimpArgs false

theorem flat0_closed0 {g : G} (h : g.flat0 = true) : g.closed0 = true := by cases g <;> simp_all [G.flat0, G.closed0]
theorem Fp.lendBox {P : Program} {f h : FuncId} {k0 o0 n0 k1 o1 n1 : Nat} {cells : List G} {rs : List (List (List G))} {rs' : List (Option (List (List G)))}
    (hc : ∀ x ∈ cells, x.flat0 = true) (hr : ∀ xs ∈ rs, ∀ r ∈ xs, ∀ x ∈ r, x.flat0 = true) (hr' : ∀ xs, some xs ∈ rs' → ∀ r ∈ xs, ∀ x ∈ r, x.flat0 = true)
    (H : Fp P f [.own k0 o0 n0, .fn h [.elt cells 0]] [] rs (.own k1 o1 n1, [], rs')) : Fp P f [.own k0 o0 n0, .fn h [.ptr 0 0]] [cells] rs (.own k1 o1 n1, [some cells], rs') := by
  refine ⟨H.1, fun C w t0 vs hl hrep hM ht hb hrow hfx => ?_⟩
  obtain ⟨B, us, T, b1, b2, b3, b4, b5, b6⟩ := hM.box 0 cells rfl
  match vs, hl with
  | [v0, v1], _ =>
  have r0 := hrep 0 _ v0 rfl rfl
  have r1 := hrep 1 _ v1 rfl rfl
  let C0 : Cx := { box := fun _ => none, row := C.row, ex := fun X => C.ex X ∧ X ≠ B }
  have hBlt : B < w.heap.size := hM.lt B b2
  have nrow : ∀ k X s sz n, C.row k = some (some (X, s, sz, n)) → X ≠ B := fun k X s sz n hk e => hM.br 0 k B s sz n b1 (e ▸ hk)
  have q0 : Rep C0 w (.own k0 o0 n0) v0 := by
    cases r0 with
    | own _ _ _ B' s sz n A h1 h2 h3 hn0 => exact .own _ _ _ B' s sz n A h1 h2 h3 hn0
    | ownnil _ A h1 => exact .ownnil _ A h1
  have q1 : Rep C0 w (.fn h [.elt cells 0]) v1 := by
    cases r1 with
    | fn _ _ us' hl' hh =>
      match us', hl' with
      | [u], _ =>
        have hu := hh 0 _ u rfl rfl
        cases hu with
        | ptr _ _ B' hb' =>
          rw [b1] at hb'; cases hb'
          refine .fn h [.elt cells 0] [_] rfl (fun i g v h1 h2 => ?_)
          cases i with
          | succ i => simp at h1
          | zero =>
            simp at h1 h2
            subst h1; subst h2
            refine .elt cells 0 B 0 (fun j => us.getD j undef) hBlt (fun hx => hx.2 rfl) (fun x hx => flat0_closed0 (hc x hx)) (fun j g hj => ?_) (fun j g hj => ?_)
            · have hjl : j < us.length := by rw [b4]; exact (List.getElem?_eq_some_iff.1 hj).1
              rw [cell_of_block b3, List.getD_eq_getElem?_getD]
              simp [List.getElem?_eq_getElem hjl]
            · have hjl : j < us.length := by rw [b4]; exact (List.getElem?_eq_some_iff.1 hj).1
              have := (b6 j g us[j] hj (List.getElem?_eq_getElem hjl)).2
              rw [List.getD_eq_getElem?_getD, List.getElem?_eq_getElem hjl]
              exact this.flat0 (hc g (List.mem_of_getElem? hj))
  have hM0 : Mem C0 w ([].map some) (rs.map some) := by
    refine ⟨fun b cs hb => by simp at hb, fun k xs hk => ?_, fun b X hX => (by cases hX), hM.domR, fun b b' X hX => (by cases hX), hM.rr, fun b k X s sz n hX => (by cases hX), fun X hX => hM.lt X hX.1⟩
    rcases hM.row k xs hk with m1 | ⟨X, s, sz, n, ws, T', fz, m1, m2, m3, m4, m5, m6, m7, m8, m9⟩ | km
    rotate_left 2
    · exact .inr (.inr (km.move (fun q h => h) (fun X q hq h => ⟨h, nrow k X _ _ _ hq⟩) (fun _ _ _ => rfl) (fun g u hg hu => hu.keep0 hg (Keeps.refl _ _) (fun X _ hn h => hn h.1))))
    · exact .inl m1
    · refine .inr <| .inl ⟨X, s, sz, n, ws, T', fz, m1, ⟨m2, nrow k X s sz n m1⟩, m3, m4, m5, m6, m7, m8, fun i r j g v a1 a2 a3 => (m9 i r j g v a1 a2 a3).flat0 ?_⟩
      have hx : xs ∈ rs := by
        have := List.mem_of_getElem? hk
        rw [List.mem_map] at this
        obtain ⟨y, hy, e⟩ := this
        cases e; exact hy
      exact hr xs hx r (List.mem_of_getElem? a1) g (List.mem_of_getElem? a2)
  refine (H.2 C0 w (fun X => t0 X ∧ X ≠ B) [v0, v1] rfl (fun i g v hg hv => ?_) hM0 (fun X hX => ⟨ht X hX.1, hX.2⟩) (fun b X hX => (by cases hX)) (fun k X s sz n hk => ⟨hrow k X s sz n hk, nrow k X s sz n hk⟩) (hfx.sub fun X hX => hX.1)).mono fun e w' q => ?_
  · match i, hg, hv with
    | 0, hg, hv => cases hg; cases hv; exact q0
    | 1, hg, hv => cases hg; cases hv; exact q1
  obtain ⟨v, C', g, bs', rs2, h1, ⟨rfl, rfl, rfl⟩, h3, h4, h5⟩ := q
  have hB' : w'.heap[B]? = some (.cells ⟨us⟩ T (0, 0)) := by rw [h5.fr.block B hBlt (fun h => h.2 rfl)]; exact b3
  have nrow' : ∀ k X s sz n, C'.row k = some (some (X, s, sz, n)) → X ≠ B := fun k X s sz n hk e => by
    rcases h5.tr k X s sz n hk with h | h
    · exact h.2 e
    · omega
  let C2 : Cx := { box := C.box, row := C'.row, ex := fun X => C'.ex X ∨ X = B }
  refine ⟨v, C2, _, _, _, h1, ⟨rfl, rfl, rfl⟩, ?_, ⟨fun b cs hb' => ?_, fun k xs hk => ?_, fun b X hX => ?_, h4.domR, hM.bb, h4.rr, fun b k X s sz n hX hk => ?_, fun X hX => ?_⟩, ⟨fun b X hX => hX, ⟨h5.fr.os, h5.fr.tape, h5.fr.output, h5.fr.size, fun X hX hn => h5.fr.block X hX (fun h => hn h.1), h5.fr.ty⟩, fun X hX => ?_, fun X hX => ?_, fun b X hX => .inl (hb b X hX), fun k X s sz n hk => ?_⟩⟩
  · cases h3 with
    | own _ _ _ B' s sz n A g1 g2 g3 hn0 => exact .own _ _ _ B' s sz n A g1 g2 g3 hn0
    | ownnil _ A g1 => exact .ownnil _ A g1
  · cases b with
    | succ b => simp at hb'
    | zero =>
      simp at hb'; subst hb'
      exact ⟨B, us, T, b1, .inr rfl, hB', b4, b5, fun i g v hg hv => ⟨(b6 i g v hg hv).1, (b6 i g v hg hv).2.flat0 (hc g (List.mem_of_getElem? hg))⟩⟩
  · rcases h4.row k xs hk with m1 | ⟨X, s, sz, n, ws, T', fz, m1, m2, m3, m4, m5, m6, m7, m8, m9⟩ | km
    rotate_left 2
    · exact .inr (.inr (km.moveM (fun q h => h) (fun X q _ h => .inl h) (fun _ _ _ => rfl) (fun r hr0 g hg u _ hu => hu.flat0 (hr' xs (List.mem_of_getElem? hk) r hr0 g hg))))
    · exact .inl m1
    · exact .inr <| .inl ⟨X, s, sz, n, ws, T', fz, m1, .inl m2, m3, m4, m5, m6, m7, m8, fun i r j g v a1 a2 a3 => (m9 i r j g v a1 a2 a3).flat0 (hr' xs (List.mem_of_getElem? hk) r (List.mem_of_getElem? a1) g (List.mem_of_getElem? a2))⟩
  · obtain ⟨cs, hcs⟩ := hM.domB b X hX
    cases b with
    | succ b => simp at hcs
    | zero => exact ⟨cells, rfl⟩
  · have e : X = B := by
      obtain ⟨cs, hcs⟩ := hM.domB b X hX
      cases b with
      | succ b => simp at hcs
      | zero => rw [b1] at hX; cases hX; rfl
    exact nrow' k X s sz n hk e
  · rcases hX with hX | rfl
    · exact h4.lt X hX
    · exact Nat.lt_of_lt_of_le hBlt h5.fr.size
  · by_cases e : X = B
    · exact .inr e
    · exact .inl (h5.ex X ⟨hX, e⟩)
  · rcases hX with hX | rfl
    · rcases h5.exn X hX with h | h
      · exact .inl h.1
      · exact .inr h
    · exact .inl b2
  · rcases h5.tr k X s sz n hk with h | h
    · exact .inl h.1
    · exact .inr h
end Go.Proofs.YtcihkmnolagdlaaDoor.Av
