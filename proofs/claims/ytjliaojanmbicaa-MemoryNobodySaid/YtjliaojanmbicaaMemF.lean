/- The law's own copy; what stays; bytes as a string. -/
import Derived.Test.YtjliaojanmbicaaRows
import Derived.Test.YtjliaojanmbicaaMemE
import Derived.Laws.IdiomStrings
import Derived.Laws.BytesArg
namespace Go.Proofs.Ytjliaojanmbicaa.mem
open Go Go.ChangeShapes Go.WideShapes Go.ChangeAt Go.RowKit
/-- 'string(b)' of a slice that reads as bytes, nil or empty too. -/
theorem str_rd (l : List UInt8) (A : Option Addr) (n c : Nat) (hn : l.length = n) (w : World) (h : Rd w A (bcs l)) : Sem.run Try.prog (convert 22 9 (.slice A n c)) w = .ok (.string ⟨l.toArray⟩) w := by
  subst hn
  rcases A with _ | ad
  · have hl : l = [] := by
      rcases h with h | ⟨b, off, e, _⟩
      · simpa [bcs, Lib.byteCells] using h
      · cases e
    subst hl
    exact run_convert_bytes_nil _ _ _ Try.underlying22 Try.underlying5 _ c _ Try.underlying9
  · exact run_convert_bytes_back w _ _ _ ad c l Try.underlying22 Try.underlying5 Try.underlying9 fun j hj => by
      rcases h with h | ⟨b, off, e, _, hc⟩
      · exfalso
        have : l = [] := by simpa [bcs, Lib.byteCells] using h
        subst this; simp at hj
      · injection e with e
        subst e
        have := hc j _ (bcs_at (List.getElem?_eq_getElem hj))
        rw [Addr.add_lit]; exact this
set_option maxHeartbeats 1000000 in
theorem lent (l : List UInt8) (A : Option Addr) (c : Nat) (hl : l.length ≤ 1000000) (w : World) (h : Rd w A (bcs l)) : Calls Try.prog 9 #[.slice A l.length c] w fun e w' =>
    ∃ g cap, e = .returned (.slice (some ⟨g, 0, none⟩) l.length cap) ∧ l.length + 1 ≤ cap ∧ w'.ownsRow w.heap.size 5 1 (.slice (some ⟨g, 0, none⟩) (l.length + 1) cap) (l.length + 1) (bcs (l ++ [99])) ∧ Below w.heap.size w w' := by
  obtain ⟨i0, hi, hz0, hz1, hz2⟩ := info_parts info_byte
  have hown : (w.alloc (.cells #[] 5)).ownsRow w.heap.size 5 1 (.slice (some ⟨w.heap.size, 0, none⟩) 0 0) 0 [] := World.ownsRow_lit w #[] 0 (Nat.le_refl _) (by decide) rfl
  have hr2 := h.alloc (.cells #[] 5)
  have hn := bcs_length l
  have h1 := bcs_one l
  have hcat : bcs l ++ [.int .u8 99] = bcs (l ++ [99]) := by simp [bcs, Lib.byteCells]
  generalize bcs (l ++ [99]) = ys at *
  generalize hxs : bcs l = xs at *
  generalize hns : l.length = n at *
  have HN := Lib.hid hn; have HL := Lib.hid hl; have HX := Lib.hid hxs; have HNS := Lib.hid hns; have HC := Lib.hid hcat; clear hn hl hxs hns hcat
  go_enter Try.func9, Try.ntmps9
  go_wp2_with (at_builtin; refine wpList_append_rd _ rfl (.tmp 4) (.tmp 5) 22 rfl w.heap.size 5 i0 (.int .u8 0) 1 1 Try.underlying22 hi hz0 hz1 hz2 rfl (by decide) _ 0 [] rfl hown _ n _ xs rfl (by rw [HN.out]; omega) hr2 h1 ?c3 ?c4 ?c5 ?_)
  case c3 => have := HL.out; unfold maxLen; omega
  case c4 => have := HL.out; omega
  case c5 => simp
  · intro v' w3 hown3 hg
    have hb3 : Below w.heap.size w w3 := below_own ((Below.refl _ w).alloc (Nat.le_refl _) _) hown hg (by simp)
    have HB := Lib.hid hb3
    have hsz := hb3.size
    obtain ⟨A', c', rfl, _, _⟩ := own_form hown3
    have HO := Lib.hid hown3
    clear hb3 hown3 hg
    go_wp2_with (at_builtin; refine wpList_append_rd _ rfl (.tmp 6) (.tmp 7) 22 rfl w.heap.size 5 i0 (.int .u8 0) 1 1 Try.underlying22 hi hz0 hz1 hz2 rfl (by decide) _ n xs rfl (HO.out.alloc _) _ 1 _ [.int .u8 99] rfl rfl (Rd.new _ _ _) ?d2 ?d3 ?d4 ?d5 ?_)
    case d2 => intro u hu; simp at hu; subst hu; rfl
    case d3 => have := HL.out; unfold maxLen; omega
    case d4 => have := HL.out; omega
    case d5 => simp; omega
    · intro v'' w4 hown4 hg
      have hb4 : Below w.heap.size w w4 := below_own (HB.out.alloc hsz _) (HO.out.alloc _) hg (by simp; omega)
      obtain ⟨g, cap, rfl⟩ : ∃ g cap, v'' = .slice (some ⟨g, 0, none⟩) (n + 1) cap := by
        rcases hown4.2 with ⟨_, hz⟩ | ⟨g, cap, _, hv, _⟩
        · omega
        · exact ⟨g, cap, hv⟩
      obtain ⟨A2, c2, e, hle, _⟩ := own_form hown4
      injection e with e1 _ e2
      subst e1; subst e2
      rw [HC.out] at hown4
      have HB4 := Lib.hid hb4; have HO4 := Lib.hid hown4
      clear hb4 hown4 hg
      have hc0 : ¬ cap = 0 := by omega
      have hnc : (n : Int) ≤ (cap : Int) := by omega
      go_wp2
      go_ret
      exact ⟨g, cap, rfl, hle, HO4.out, HB4.out⟩
theorem stays (l : List UInt8) (hl : l.length ≤ 1000000) (A : Option Addr) (g c c2 : Nat) (hc : l.length + 1 ≤ c) (w : World) (h : Rd w (some ⟨g, 0, none⟩) (bcs (l ++ [99]))) (h2 : Rd w A (bcs l)) : Calls Try.prog 15 #[.slice (some ⟨g, 0, none⟩) l.length c, .slice A l.length c2] w fun e w' => e = .returned (.bool true) ∧ Below w.heap.size w w' := by
  have hcell := h.cell (bcs_at (l := l ++ [99]) (j := l.length) (x := 99) (by simp))
  rw [Nat.zero_add] at hcell
  have h' : Rd w (some ⟨g, 0, none⟩) (bcs l) := by
    have := h.take l.length
    rwa [show (bcs (l ++ [99])).take l.length = bcs l by simp [bcs, Lib.byteCells]] at this
  have k1 := str_rd l (some ⟨g, 0, none⟩) l.length c rfl w h'
  have k2 := str_rd l A l.length c2 rfl w h2
  have e1 : (l.length : Int) + 1 ≤ (c : Int) := by omega
  have e2 : (l.length : Int) ≤ 1000000 := by omega
  have e3 : ¬ c = 0 := by omega
  have hit : ((l.length : Int) + 1).toNat = l.length + 1 := by omega
  generalize (ByteArray.mk l.toArray) = S at *
  generalize l.length = n at *
  clear h h2 h' hl hc
  go_enter Try.func15, Try.ntmps15
  go_wp2_with fail
  go_ret
  exact ⟨rfl, Below.refl _ _⟩
end Go.Proofs.Ytjliaojanmbicaa.mem
