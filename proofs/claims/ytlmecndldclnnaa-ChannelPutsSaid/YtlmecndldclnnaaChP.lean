/- Channels: the reference's Put, all ways; no condition. -/
import Derived.Test.YtlmecndldclnnaaRows
import Derived.Test.YtlmecndldclnnaaChG
import Derived.Test.YtlmecndldclnnaaChN
namespace Go.Proofs.Ytlmecndldclnnaa.chan
open Go Go.ChangeShapes Go.WideShapes Go.ChangeAt Go.RowKit Go.Proofs.Ytlmecndldclnnaa.rows
theorem rrows_all (x : Ch) (ls : List Msg) : rrows x ls ls.length = room x ls := by
  unfold rrows room
  rw [List.take_length]
theorem rput {x y : Ch} {ls l2 : List Msg} {m : Msg} {E : Int} (hr : putR x ls m = (y, l2, E)) (A : Option Addr) (c : Nat) (h63 : ls.length ≤ 1000000) (Am : Option Addr) (cm : Nat) (hmc : m.length ≤ cm) (w : World) (h : Rms w A ls) (hm : Rd w Am (bcs m)) :
    Calls Try.prog 12 #[.agg (qcells x A ls.length c), .slice Am m.length cm] w (QOut (y, l2, E) w) := by
  rw [← hr]
  obtain ⟨i, f, t, cp, s⟩ := x
  cases hq : mayQ ⟨i, f, t, cp, s⟩ ls with
  | false =>
    refine (rput_arg i f t cp s A ls.length c ls rfl h63 hq Am m.length cm w h).mono ?_
    rintro e w' ⟨rfl, hb⟩
    exact QOut.none (E := 2) (by unfold putR; rw [hq]; rfl) hb
  | true =>
    by_cases hl : s < (m.length : Int)
    · refine (rput_long i f t cp s A ls.length c ls rfl h63 hq Am m.length cm hl w h).mono ?_
      rintro e w' ⟨rfl, hb⟩
      exact QOut.none (E := 3) (by unfold putR; rw [hq, if_pos rfl, if_pos hl]) hb
    · refine (rput_ok i f t cp s A ls.length c ls rfl hq m Am m.length cm rfl hmc (by omega) w h hm).mono ?_
      rintro e w' ⟨A', c', rfl, h1, hb⟩
      have e2 : putR ⟨i, f, t, cp, s⟩ ls m = (⟨i, f, t, cp, s⟩, room ⟨i, f, t, cp, s⟩ ls ++ [m], 0) := by unfold putR; rw [hq, if_pos rfl, if_neg hl]
      rw [rrows_all] at h1 ⊢
      rw [e2]
      exact ⟨A', c', by simp only [List.length_append, List.length_singleton]; rfl, h1, hb⟩
theorem rput_to {x y : Ch} {ls l2 : List Msg} {m : Msg} {E : Int} (hr : putR x ls m = (y, l2, E)) (A : Option Addr) (c : Nat) (h63 : ls.length ≤ 1000000) (Am : Option Addr) (cm : Nat) (hmc : m.length ≤ cm) (w : World) (h : Rms w A ls) (hm : Rd w Am (bcs m)) :
    Calls Try.prog 12 #[.agg (qcells x A ls.length c), .slice Am m.length cm] w fun e w' => ∃ A c, e = .returned (.tuple #[.agg (qcells y A l2.length c), .int .i64 E]) ∧ QAt w.heap.size w'.heap.size w' A c l2 ∧ Below w.heap.size w w' := rput hr A c h63 Am cm hmc w h hm
end Go.Proofs.Ytlmecndldclnnaa.chan
