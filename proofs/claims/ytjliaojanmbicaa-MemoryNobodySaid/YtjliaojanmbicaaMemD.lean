/- The reference's Read and Load32. -/
import Derived.Test.YtjliaojanmbicaaRows
import Derived.Test.YtjliaojanmbicaaMemC
namespace Go.Proofs.Ytjliaojanmbicaa.mem
open Go Go.ChangeShapes Go.WideShapes Go.ChangeAt Go.RowKit
theorem bcs_snoc {l : List UInt8} {k : Nat} {x : UInt8} (h : l[k]? = some x) : bcs (l.take k) ++ [.int .u8 (x.toNat : Int)] = bcs (l.take (k + 1)) := by
  rw [List.take_add_one, h]; simp [bcs, Lib.byteCells]
set_option maxHeartbeats 1000000 in
theorem rread_ok (l : List UInt8) (A : Option Addr) (c a q : Nat) (hn : l.length ≤ 512) (hq : a + q ≤ l.length) (w : World) (h : Rd w A (bcs l)) :
    Calls Try.prog 11 #[.slice A l.length c, .int .i64 a, .int .i64 q] w fun e w' => ∃ v, e = .returned (.tuple #[v, .int .i64 0]) ∧ CopyOf ((l.drop a).take q) w v w' := by
  have T := rthere A c l.length a q
  rw [there_in hn (by omega)] at T
  have HT := Lib.hid T; clear T
  obtain ⟨i0, hi, hz0, hz1, hz2⟩ := info_parts info_byte
  go_enter Try.func11, Try.ntmps11
  go_wp2_with fail
  refine (HT.out _).mono ?_
  rintro e w1 ⟨rfl, rfl⟩
  obtain ⟨w, rfl⟩ : ∃ w0 : World, w0 = w1 := ⟨_, rfl⟩
  go_wp2_with fail
  go_loopw [9, 10] (fun v i wr => ∃ k : Nat, k ≤ q ∧ i = .int .i64 k ∧ wr.ownsRow w.heap.size 5 1 v k (bcs ((l.drop a).take k)) ∧ Below w.heap.size w wr) (fun _ i _ => q - (intOf i).toNat)
  case atStart => exact ⟨0, Nat.zero_le _, rfl, World.ownsRow_nil _ _ _ _, Below.refl _ _⟩
  case round =>
    obtain ⟨k, hk, rfl, hown, hb⟩ := hrel
    by_cases hkq : k < q
    · have hki : (k : Int) < (q : Int) := by omega
      have hlt : a + k < l.length := by omega
      obtain ⟨x, hx⟩ : ∃ x, l[a + k]? = some x := ⟨_, List.getElem?_eq_getElem hlt⟩
      obtain ⟨b, off, rfl, _⟩ := h.addr (by rw [bcs_length]; omega)
      have hc := (h.below hb).cell (bcs_at hx)
      have hnew := bcs_snoc (l := l.drop a) (k := k) (x := x) (by rw [List.getElem?_drop]; exact hx)
      have hii : (a : Int) + (k : Int) < (l.length : Int) := by omega
      have hi0 : 0 ≤ (a : Int) + (k : Int) := by omega
      have hit : ((a : Int) + (k : Int)).toNat = a + k := by omega
      have hwr : IntKind.i64.wrap ((a : Int) + (k : Int)) = (a : Int) + (k : Int) := IntWalk.i64_in _ (by omega)
      have hsz := hb.size
      have hq5 : (q : Int) ≤ 512 := by omega
      obtain ⟨A', c', rfl, _, _⟩ := own_form hown
      generalize hxs : bcs ((l.drop a).take k) = xs at *
      have Hnew := Lib.hid hnew; have HXS := Lib.hid hxs; have HB := Lib.hid hb; have HX := Lib.hid hx; have HO := Lib.hid hown; have HN := Lib.hid hn
      clear hnew hxs hb hx hown hn
      go_wp2_with (at_builtin; refine wpList_append_rd _ rfl (.tmp 23) (.tmp 30) 22 rfl w.heap.size 5 i0 (.int .u8 0) 1 1 Try.underlying22 hi hz0 hz1 hz2 rfl (by decide) _ k xs rfl (HO.out.alloc _) _ 1 _ [.int .u8 (x.toNat : Int)] rfl rfl (Rd.new _ _ _) ?c2 ?c3 ?c4 ?c5 ?_)
      case c2 => intro u hu; simp at hu; subst hu; rfl
      case c3 => have := HN.out; unfold maxLen; omega
      case c4 => have := HN.out; omega
      case c5 => simp; omega
      · intro v' w3 hown3 hg
        have hb3 : Below w.heap.size w w3 := below_own (HB.out.alloc hsz _) (HO.out.alloc _) hg (by simp; omega)
        rw [Hnew.out] at hown3
        have H3 := Lib.hid hown3; have H4 := Lib.hid hb3
        clear hown3 hb3 hg
        go_wp2
        go_roundw
        case rel => exact ⟨k + 1, by omega, by go_num, H3.out, H4.out⟩
        case measure => simp [intOf]; omega
    · obtain rfl : k = q := by omega
      obtain ⟨A', c', rfl, _, _⟩ := own_form hown
      have HB := Lib.hid hb; have HO := Lib.hid hown; clear hb hown
      have hlen : ((l.drop a).take k).length = k := by simp; omega
      have HL := Lib.hid hlen; clear hlen
      go_wp2_with fail
      refine bodyPost_ret (v := .tuple #[.slice A' k c', .int .i64 0]) (by simp [results, Try.results11, go_sem]) rfl ⟨_, rfl, A', c', by rw [HL.out], by rw [HL.out]; exact HO.out, HB.out⟩
theorem rread_no (l : List UInt8) (A : Option Addr) (c : Nat) (i k : Int) (e : Int) (he : thereE l.length i k = e) (h0 : (e == 0) = false) (w : World) :
    Calls Try.prog 11 #[.slice A l.length c, .int .i64 i, .int .i64 k] w fun x w' => x = .returned (.tuple #[.slice none 0 0, .int .i64 e]) ∧ w' = w := by
  have T := rthere A c l.length i k
  rw [he] at T
  have HT := Lib.hid T; clear T he
  go_enter Try.func11, Try.ntmps11
  go_wp2_with fail
  refine (HT.out _).mono ?_
  rintro e w1 ⟨rfl, rfl⟩
  go_wp2_with fail
  refine bodyPost_ret (v := .tuple #[.slice none 0 0, .int .i64 _]) (by simp [results, Try.results11, go_sem]) rfl ⟨rfl, rfl⟩
theorem rread (l : List UInt8) (A : Option Addr) (c : Nat) (i k : Int) (w : World) (h : Rd w A (bcs l)) :
    Calls Try.prog 11 #[.slice A l.length c, .int .i64 i, .int .i64 k] w fun e w' => ∃ v, e = .returned (.tuple #[v, .int .i64 (thereE l.length i k)]) ∧ CopyOf (part l i k) w v w' := by
  have hempty : CopyOf [] w (.slice none 0 0) w := ⟨none, 0, rfl, World.ownsRow_nil _ _ _ _, Below.refl _ _⟩
  by_cases h1 : 512 < l.length
  · have e := there_long h1 i k
    rw [show part l i k = [] by unfold part; rw [e]; rfl, e]
    exact (rread_no l A c i k 3 e rfl w).mono fun e w' ⟨he, hw⟩ => ⟨_, he, hw ▸ hempty⟩
  · by_cases h2 : 0 ≤ i ∧ 0 ≤ k ∧ i + k ≤ l.length
    · have e := there_in (by omega) h2
      obtain ⟨a, rfl⟩ := Int.eq_ofNat_of_zero_le h2.1
      obtain ⟨q, rfl⟩ := Int.eq_ofNat_of_zero_le h2.2.1
      rw [show part l a q = (l.drop a).take q by unfold part; rw [if_pos e]; simp, e]
      exact rread_ok l A c a q (by omega) (by omega) w h
    · have e := there_out (by omega) h2
      rw [show part l i k = [] by unfold part; rw [e]; rfl, e]
      exact (rread_no l A c i k 180 e rfl w).mono fun e w' ⟨he, hw⟩ => ⟨_, he, hw ▸ hempty⟩
end Go.Proofs.Ytjliaojanmbicaa.mem
