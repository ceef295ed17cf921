/- Channels: the reference's Take, all ways; no condition. -/
import Derived.Test.YtlmecndldclnnaaRows
import Derived.Test.YtlmecndldclnnaaChG
import Derived.Test.YtlmecndldclnnaaChO
namespace Go.Proofs.Ytlmecndldclnnaa.chan
open Go Go.ChangeShapes Go.WideShapes Go.ChangeAt Go.RowKit Go.Proofs.Ytlmecndldclnnaa.rows
theorem rtake {x y : Ch} {ls l2 : List Msg} {m : Msg} {E : Int} (hr : takeR x ls = (m, y, l2, E)) (A : Option Addr) (c : Nat) (h63 : ls.length ≤ 1000000) (w : World) (h : Rms w A ls) :
    Calls Try.prog 18 #[.agg (qcells x A ls.length c)] w (TOut (m, y, l2, E) w) := by
  rw [← hr]
  obtain ⟨i, f, t, cp, s⟩ := x
  cases hq : mayQ ⟨i, f, t, cp, s⟩ ls with
  | false =>
    refine (rtake_arg i f t cp s A ls.length c ls rfl h63 hq w h).mono ?_
    rintro e w' ⟨rfl, hb⟩
    exact TOut.none (E := 2) (by unfold takeR; rw [hq]; rfl) hb
  | true =>
    cases ls with
    | nil =>
      refine (rtake_none i f t cp s A 0 c [] rfl rfl hq w h).mono ?_
      rintro e w' ⟨rfl, hb⟩
      exact TOut.none (E := 100) (by unfold takeR; rw [hq, if_pos rfl]) hb
    | cons a r =>
      have e2 : takeR ⟨i, f, t, cp, s⟩ (a :: r) = (a, ⟨i, f, t, cp, s⟩, r, 0) := by unfold takeR; rw [hq, if_pos rfl]
      rw [e2]
      exact rtake_ok i f t cp s A (a :: r).length c a r rfl hq w h
theorem rtake_to {x y : Ch} {ls l2 : List Msg} {m : Msg} {E : Int} (hr : takeR x ls = (m, y, l2, E)) (A : Option Addr) (c : Nat) (h63 : ls.length ≤ 1000000) (w : World) (h : Rms w A ls) :
    Calls Try.prog 18 #[.agg (qcells x A ls.length c)] w fun e w' => ∃ u A c, e = .returned (.tuple #[u, .agg (qcells y A l2.length c), .int .i64 E]) ∧ MsgAt w.heap.size w'.heap.size w' u m ∧ QAt w.heap.size w'.heap.size w' A c l2 ∧ Below w.heap.size w w' := rtake hr A c h63 w h
end Go.Proofs.Ytlmecndldclnnaa.chan
