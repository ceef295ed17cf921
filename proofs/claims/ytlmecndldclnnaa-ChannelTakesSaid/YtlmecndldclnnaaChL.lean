/- Channels: what was answered is written over; no condition. -/
import Derived.Test.YtlmecndldclnnaaRows
import Derived.Test.YtlmecndldclnnaaChI
import Derived.Test.YtlmecndldclnnaaLibC
namespace Go.Proofs.Ytlmecndldclnnaa.chan
open Go Go.ChangeShapes Go.WideShapes Go.ChangeAt Go.RowKit Go.Proofs.Ytlmecndldclnnaa.rows
/-- A row of slices between lo and hi, each of bytes that may be written. -/
def Spoily (lo hi : Nat) (w : World) (A : Option Addr) (n : Nat) : Prop :=
  ∃ vs : List Value, vs.length = n ∧ RowIn 27 lo hi w A vs ∧ ∀ k, k < n → ∃ A' m c', vs[k]? = some (.slice A' m c') ∧ m ≤ 1000000 ∧ BysIn 5 lo hi w A' m
theorem Spoily.below {lo hi B n : Nat} {w w' : World} {A : Option Addr} (h : Spoily lo hi w A n) (hb : Below B w w') (hB : hi ≤ B) : Spoily lo hi w' A n := by
  obtain ⟨vs, h1, h2, h3⟩ := h
  exact ⟨vs, h1, h2.below hb hB, fun k hk => by obtain ⟨A', m, c', e1, e2, e3⟩ := h3 k hk; exact ⟨A', m, c', e1, e2, e3.below hb hB⟩⟩
theorem Spoily.set {lo hi n : Nat} {w : World} {A : Option Addr} (h : Spoily lo hi w A n) {g : Nat} {cs : Array Value} (hg : w.heap[g]? = some (.cells cs 5 (0, 0))) (k : Nat) (z : Int) : Spoily lo hi (w.setCell ⟨g, k, none⟩ (.int .u8 z)) A n := by
  obtain ⟨vs, h1, h2, h3⟩ := h
  exact ⟨vs, h1, h2.far hg (by decide) _, fun k' hk => by obtain ⟨A', m, c', e1, e2, e3⟩ := h3 k' hk; exact ⟨A', m, c', e1, e2, e3.set g k z⟩⟩
theorem Own2.spoily {lo hi : Nat} {w : World} {A : Option Addr} {ls : List Msg} (h : Own2 lo hi w A ls) (hm : ∀ l ∈ ls, l.length ≤ 1000000) : Spoily lo hi w A ls.length := by
  obtain ⟨vs, h1, h2, h3⟩ := h
  refine ⟨vs, h1, h2, fun k hk => ?_⟩
  obtain ⟨l, hl⟩ : ∃ l, ls[k]? = some l := ⟨_, List.getElem?_eq_getElem hk⟩
  obtain ⟨A', c', e1, _, _, e4, e5⟩ := h3 k l hl
  refine ⟨A', l.length, c', e1, hm l (List.mem_of_getElem? hl), ?_⟩
  rcases e4 with ⟨g, rfl⟩ | rfl
  · exact e5.bys (g := g) (.inl rfl)
  · exact e5.bys (g := 0) (.inr rfl)
theorem Spoily.at {lo hi n : Nat} {w : World} {A : Option Addr} (h : Spoily lo hi w A n) {k : Nat} (hk : k < n) : ∃ b off A' m c', A = some ⟨b, off, none⟩ ∧ w.cell? ⟨b, off + k, none⟩ = some (.slice A' m c') ∧ m ≤ 1000000 ∧ BysIn 5 lo hi w A' m := by
  obtain ⟨vs, h1, h2, h3⟩ := h
  obtain ⟨b, off, rfl⟩ := h2.addr (by omega)
  obtain ⟨A', m, c', e1, e2, e3⟩ := h3 k hk
  exact ⟨b, off, A', m, c', rfl, h2.rd.cell e1, e2, e3⟩
set_option maxRecDepth 100000 in
set_option maxHeartbeats 2000000 in
theorem spoil_go (i f t cp s : Int) (lo hi n c : Nat) (A : Option Addr) (h63 : n ≤ 1000000) (w : World) (h : Spoily lo hi w A n) (hhi : hi ≤ w.heap.size) :
    Calls Try.prog 14 #[.agg #[.int .i64 i, .int .i64 f, .int .i64 t, .int .i64 cp, .int .i64 s, .slice (A) n c]] w fun e w' => e = .returned (.tuple #[]) ∧ Below (min lo w.heap.size) w w' := by
  have P0 := Lib.hid (blk_new w #[.int .i64 i, .int .i64 f, .int .i64 t, .int .i64 cp, .int .i64 s, .slice (A) n c] 26)
  have hX := Lib.hid ((Below.refl w.heap.size w).alloc (Nat.le_refl _) (.cells #[.int .i64 i, .int .i64 f, .int .i64 t, .int .i64 cp, .int .i64 s, .slice (A) n c] 26))
  have H := Lib.hid (h.below hX.out hhi)
  have h63' : (n : Int) ≤ 1000000 := by omega
  clear h
  go_enter Try.func14, Try.ntmps14
  go_wp2
  generalize (w.alloc (.cells #[.int .i64 i, .int .i64 f, .int .i64 t, .int .i64 cp, .int .i64 s, .slice (A) n c] 26)) = w0 at *
  go_loopw [2] (fun iv wr => ∃ k : Nat, k ≤ n ∧ iv = .int .i64 k ∧ Spoily lo hi wr A n ∧ wr.heap[w.heap.size]? = some (.cells #[.int .i64 i, .int .i64 f, .int .i64 t, .int .i64 cp, .int .i64 s, .slice (A) n c] 26 (0, 0)) ∧ Below lo w0 wr) (fun iv _ => n - (intOf iv).toNat)
  case atStart => exact ⟨0, Nat.zero_le _, rfl, H.out, P0.out, Below.refl _ _⟩
  case round =>
    obtain ⟨k, hk, rfl, hs, hp, hb⟩ := hrel
    have a5 := blk_cell hp 5
    have HS := Lib.hid hs; have HP := Lib.hid hp; have HB := Lib.hid hb
    clear hs hp hb
    by_cases hkl : k < n
    · have hki : (k : Int) < (n : Int) := by omega
      have hk0 : (0 : Int) ≤ (k : Int) := by omega
      go_wp2
      go_loopw [3] (fun jv wi => ∃ j : Nat, j ≤ 1000000 ∧ jv = .int .i64 j ∧ Spoily lo hi wi A n ∧ wi.heap[w.heap.size]? = some (.cells #[.int .i64 i, .int .i64 f, .int .i64 t, .int .i64 cp, .int .i64 s, .slice (A) n c] 26 (0, 0)) ∧ Below lo w0 wi) (fun jv _ => 1000000 - (intOf jv).toNat)
      case atStart => exact ⟨0, Nat.zero_le _, rfl, HS.out, HP.out, HB.out⟩
      case round =>
        obtain ⟨j, hj, rfl, hs, hp, hb⟩ := hrel
        obtain ⟨b, off, A', m, c', rfl, e1, e2, e3⟩ := hs.at hkl
        have a6 := blk_cell hp 5
        have hj0 : (0 : Int) ≤ (j : Int) := by omega
        have HS2 := Lib.hid hs; have HP2 := Lib.hid hp; have HB2 := Lib.hid hb
        clear hs hp hb
        by_cases hjm : j < m
        · have hji : (j : Int) < (m : Int) := by omega
          obtain ⟨g, z, rfl, l1, l2, l3, l4⟩ := e3.at hjm
          obtain ⟨cs, hg⟩ : ∃ cs, wr.heap[g]? = some (.cells cs 5 (0, 0)) := by
            rcases e3 with h | ⟨g', cs, e, _, _, hg, _⟩
            · omega
            · injection e with e; injection e with e; subst e; exact ⟨cs, hg⟩
          have HG := Lib.hid hg
          have hne : w.heap.size ≠ g := by omega
          clear hg
          go_wp2
          go_roundw
          case rel => exact ⟨j + 1, by omega, by go_num, HS2.out.set HG.out j _, blk_far HP2.out (p := ⟨g, j, none⟩) hne _, HB2.out.setCell (p := ⟨g, j, none⟩) l1 _⟩
          case measure => simp [intOf]; omega
        · have hji : ¬ (j : Int) < (m : Int) := by omega
          go_wp2
          go_roundw
          case rel => exact ⟨k + 1, by omega, by go_num, HS2.out, HP2.out, HB2.out⟩
          case measure => simp [intOf]; omega
    · obtain rfl : k = n := by omega
      have HF := Lib.hid ((hX.out.mono (Nat.min_le_right lo _)).trans (HB.out.mono (Nat.min_le_left _ _)))
      go_wp2
      first | (refine bodyPost_end (results_none (by rfl) _ _ _) (by rfl) ?_) | skip
      exact ⟨rfl, HF.out⟩
theorem spoil (x : Ch) (lo hi c : Nat) (A : Option Addr) (ls : List Msg) (h63 : ls.length ≤ 1000000) (hm : ∀ l ∈ ls, l.length ≤ 1000000) (w : World) (h : Own2 lo hi w A ls) (hlo : lo ≤ w.heap.size) (hhi : hi ≤ w.heap.size) :
    Calls Try.prog 14 #[.agg (qcells x A ls.length c)] w fun e w' => e = .returned (.tuple #[]) ∧ Below lo w w' := by
  obtain ⟨i, f, t, cp, s⟩ := x
  have T := spoil_go i f t cp s lo hi ls.length c A h63 w (Own2.spoily h hm) hhi
  rw [Nat.min_eq_left hlo] at T
  exact T
end Go.Proofs.Ytlmecndldclnnaa.chan
