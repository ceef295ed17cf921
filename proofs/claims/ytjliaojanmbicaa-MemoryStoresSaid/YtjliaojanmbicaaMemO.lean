/- memory.Store32; the reference's Word and Write. -/
import Derived.Test.YtjliaojanmbicaaRows
import Derived.Test.YtjliaojanmbicaaMemN
namespace Go.Proofs.Ytjliaojanmbicaa.mem
open Go Go.ChangeShapes Go.WideShapes Go.ChangeAt Go.RowKit
/-- A word's four bytes. -/
def wordBytes (x : Nat) : List UInt8 := [UInt8.ofNat (x / 16777216), UInt8.ofNat (x / 65536), UInt8.ofNat (x / 256), UInt8.ofNat x]
theorem word_cells (x : Nat) (hx : x < 4294967296) : [Value.int .u8 ((x : Int) / 16777216), .int .u8 ((x : Int) / 65536 % 256), .int .u8 ((x : Int) / 256 % 256), .int .u8 ((x : Int) % 256)] = bcs (wordBytes x) := by
  simp [bcs, Lib.byteCells, wordBytes]; omega
theorem store32 (l : List UInt8) (A : Option Addr) (c : Nat) (hA : A = none → c = 0) (hc : l.length ≤ c) (i : Int) (x : Nat) (hx : x < 4294967296) (w : World) (h : Rd w A (bcs l)) :
    Calls Try.prog 18 #[.slice A l.length c, .int .i64 i, .int .u32 (x : Int)] w fun e w' => ∃ v, e = .returned (.tuple #[v, .int .i64 (thereE l.length i 4)]) ∧ CopyOf (written l (wordBytes x) i) w v w' := by
  have x0 : (0 : Int) ≤ (x : Int) := by omega
  have x1 : (x : Int) ≤ 4294967295 := by omega
  have hX : Below w.heap.size w (w.alloc (.cells #[.int .u8 ((x : Int) / 16777216), .int .u8 ((x : Int) / 65536 % 256), .int .u8 ((x : Int) / 256 % 256), .int .u8 ((x : Int) % 256)] 5)) := (Below.refl _ _).alloc (Nat.le_refl _) _
  have hr := Rd.new w #[.int .u8 ((x : Int) / 16777216), .int .u8 ((x : Int) / 65536 % 256), .int .u8 ((x : Int) / 256 % 256), .int .u8 ((x : Int) % 256)] 5
  rw [show (#[Value.int .u8 ((x : Int) / 16777216), .int .u8 ((x : Int) / 65536 % 256), .int .u8 ((x : Int) / 256 % 256), .int .u8 ((x : Int) % 256)] : Array Value).toList = bcs (wordBytes x) from word_cells x hx] at hr
  have T := got_down hX <| write l (wordBytes x) A (some ⟨w.heap.size, 0, none⟩) c 4 hA hc i _ (h.below hX) hr
  rw [show (wordBytes x).length = 4 from rfl] at T
  have HT := Lib.hid T; clear T hX h hA hc hr hx
  generalize written l (wordBytes x) i = z at *
  generalize thereE l.length i 4 = y at *
  generalize l.length = n at *
  go_enter Try.func18, Try.ntmps18
  go_wp2_with fail
  refine HT.out.mono ?_
  rintro e w1 ⟨v, rfl, hv⟩
  have HV := Lib.hid hv; clear hv
  go_wp2
  refine bodyPost_ret (v := .tuple #[v, .int .i64 y]) (by simp [results, Try.results18, go_sem]) rfl ⟨_, rfl, HV.out⟩
theorem rword (x : Nat) (hx : x < 4294967296) (w : World) :
    Calls Try.prog 21 #[.int .u32 (x : Int)] w fun e w' => e = .returned (.slice (some ⟨w.heap.size, 0, none⟩) 4 4) ∧ Rd w' (some ⟨w.heap.size, 0, none⟩) (bcs (wordBytes x)) ∧ Below w.heap.size w w' := by
  have x0 : (0 : Int) ≤ (x : Int) := by omega
  have x1 : (x : Int) ≤ 4294967295 := by omega
  have hX : Below w.heap.size w (w.alloc (.cells #[.int .u8 ((x : Int) / 16777216), .int .u8 ((x : Int) / 65536 % 256), .int .u8 ((x : Int) / 256 % 256), .int .u8 ((x : Int) % 256)] 5)) := (Below.refl _ _).alloc (Nat.le_refl _) _
  have hr := Rd.new w #[.int .u8 ((x : Int) / 16777216), .int .u8 ((x : Int) / 65536 % 256), .int .u8 ((x : Int) / 256 % 256), .int .u8 ((x : Int) % 256)] 5
  rw [show (#[Value.int .u8 ((x : Int) / 16777216), .int .u8 ((x : Int) / 65536 % 256), .int .u8 ((x : Int) / 256 % 256), .int .u8 ((x : Int) % 256)] : Array Value).toList = bcs (wordBytes x) from word_cells x hx] at hr
  have HX := Lib.hid hX; have HR := Lib.hid hr; clear hX hr
  go_enter Try.func21, Try.ntmps21
  go_wp2_with fail
  go_ret
  exact ⟨rfl, HR.out, HX.out⟩
/-- The first k bytes of b are written. -/
def upd (l b : List UInt8) (a k : Nat) : List UInt8 := l.take a ++ b.take k ++ l.drop (a + k)
theorem upd_at (l b : List UInt8) (a k j : Nat) (hk : k ≤ b.length) (ha : a + k ≤ l.length) : (upd l b a k)[j]? = if a ≤ j ∧ j < a + k then b[j - a]? else l[j]? := by
  unfold upd
  by_cases h3 : j < a
  · rw [if_neg (by omega), List.append_assoc, List.getElem?_append_left (by simp; omega), List.getElem?_take, if_pos h3]
  · by_cases h4 : j < a + k
    · rw [if_pos (by omega), List.getElem?_append_left (by simp; omega), List.getElem?_append_right (by simp; omega), List.getElem?_take]
      have e : j - (l.take a).length = j - a := by simp; omega
      rw [e, if_pos (by omega)]
    · rw [if_neg (by omega), List.getElem?_append_right (by simp; omega), List.getElem?_drop]
      congr 1; simp; omega
theorem upd_len (l b : List UInt8) (a k : Nat) (hk : k ≤ b.length) (ha : a + k ≤ l.length) : (upd l b a k).length = l.length := by
  unfold upd; simp; omega
theorem upd_step (l b : List UInt8) (a k : Nat) (y : UInt8) (hy : b[k]? = some y) (ha : a + k < l.length) : (upd l b a k).set (a + k) y = upd l b a (k + 1) := by
  have hk : k < b.length := (List.getElem?_eq_some_iff.1 hy).1
  apply List.ext_getElem?
  intro j
  rw [List.getElem?_set, upd_at l b a k j (by omega) (by omega), upd_at l b a (k + 1) j (by omega) (by omega), upd_len l b a k (by omega) (by omega)]
  by_cases h1 : a + k = j
  · rw [if_pos h1, if_pos (by omega), if_pos (by omega), show j - a = k by omega, hy]
  · rw [if_neg h1]
    by_cases h2 : a ≤ j ∧ j < a + k
    · rw [if_pos h2, if_pos (by omega)]
    · rw [if_neg h2, if_neg (by omega)]
theorem upd_zero (l b : List UInt8) (a : Nat) : upd l b a 0 = l := by simp [upd]
theorem upd_all (l b : List UInt8) (a : Nat) (he : thereE l.length a b.length = 0) : upd l b a b.length = written l b a := by
  unfold written upd; rw [if_pos he]; simp
theorem rwrite_no (l : List UInt8) (m : Nat) (A A2 : Option Addr) (c d : Nat) (i : Int) (e : Int) (he : thereE l.length i m = e) (h0 : (e == 0) = false) (w : World) :
    Calls Try.prog 20 #[.slice A l.length c, .int .i64 i, .slice A2 m d] w fun x w' => x = .returned (.tuple #[.slice none 0 0, .int .i64 e]) ∧ w' = w := by
  have T := rthere A c l.length i m
  rw [he] at T
  have HT := Lib.hid T; clear T he
  generalize l.length = n at *
  go_enter Try.func20, Try.ntmps20
  go_wp2_with fail
  refine (HT.out _).mono ?_
  rintro x w1 ⟨rfl, rfl⟩
  go_wp2_with fail
  refine bodyPost_ret (v := .tuple #[.slice none 0 0, .int .i64 _]) (by simp [results, Try.results20, go_sem]) rfl ⟨rfl, rfl⟩
set_option maxHeartbeats 1000000 in
theorem rwrite_ok (l b : List UInt8) (A A2 : Option Addr) (c d a : Nat) (he : thereE l.length a b.length = 0) (hn : l.length ≤ 512) (ha : a + b.length ≤ l.length) (w : World) (h : Rd w A (bcs l)) (h2 : Rd w A2 (bcs b)) :
    Calls Try.prog 20 #[.slice A l.length c, .int .i64 a, .slice A2 b.length d] w fun e w' => ∃ v, e = .returned (.tuple #[v, .int .i64 0]) ∧ CopyOf (written l b a) w v w' := by
  have T := rthere A c l.length a b.length
  rw [he] at T
  obtain ⟨i0, hi, hz0, hz1, hz2⟩ := info_parts info_byte
  have hown : (w.alloc (.cells #[] 5)).ownsRow w.heap.size 5 1 (.slice (some ⟨w.heap.size, 0, none⟩) 0 0) 0 [] := World.ownsRow_lit w #[] 0 (Nat.le_refl _) (by decide) rfl
  have hr2 := h.alloc (.cells #[] 5)
  have hbl := bcs_length l
  have hb1 := bcs_one l
  have hup0 : bcs l = bcs (upd l b a 0) := by rw [upd_zero]
  have hall := upd_all l b a he
  have hlw : (written l b a).length = l.length := by rw [← hall, upd_len l b a _ (Nat.le_refl _) ha]
  have hst : ∀ k y, b[k]? = some y → (bcs (upd l b a k)).set (a + k) (.int .u8 (y.toNat : Int)) = bcs (upd l b a (k + 1)) := fun k y hy => by
    have hk : k < b.length := (List.getElem?_eq_some_iff.1 hy).1
    rw [← upd_step l b a k y hy (by omega)]
    simp [bcs, Lib.byteCells, List.map_set]
  have hbc : ∀ k, k < b.length → ∃ y, b[k]? = some y := fun k hk => ⟨_, List.getElem?_eq_getElem hk⟩
  generalize written l b a = W at *
  generalize hN : l.length = n at *
  generalize hM : b.length = m at *
  have HT := Lib.hid T; have HN := Lib.hid hn; have HB := Lib.hid hbl; have HU := Lib.hid hup0; have HA := Lib.hid hall; have HS := Lib.hid hst; have HC := Lib.hid hbc; have HD := Lib.hid ha; have HL := Lib.hid hlw; have HH2 := Lib.hid h2
  have HNN := Lib.hid hN; have HMM := Lib.hid hM
  clear T hn hbl hup0 hall hst hbc he h ha hlw hN hM h2
  go_enter Try.func20, Try.ntmps20
  go_wp2_with fail
  refine (HT.out _).mono ?_
  rintro e w1 ⟨rfl, rfl⟩
  obtain ⟨w, rfl⟩ : ∃ w0 : World, w0 = w1 := ⟨_, rfl⟩
  go_wp2_with (at_builtin; refine wpList_append_rd _ rfl (.tmp 19) (.tmp 20) 22 rfl w.heap.size 5 i0 (.int .u8 0) 1 1 Try.underlying22 hi hz0 hz1 hz2 rfl (by decide) _ 0 [] rfl hown _ n _ (bcs l) rfl (by rw [HB.out]; omega) hr2 hb1 ?c3 ?c4 ?c5 ?_)
  case c3 => have := HN.out; unfold maxLen; omega
  case c4 => have := HN.out; omega
  case c5 => simp
  intro v' w3 hown3 hg
  have hb3 : Below w.heap.size w w3 := below_own ((Below.refl _ w).alloc (Nat.le_refl _) _) hown hg (by simp)
  rw [HU.out] at hown3
  obtain ⟨A', c', rfl, _, _⟩ := own_form hown3
  have HB3 := Lib.hid hb3; have HO := Lib.hid hown3
  clear hb3 hown3 hg hown hr2 hb1
  go_wp2_with fail
  go_loopw [10] (fun i wr => ∃ k : Nat, k ≤ m ∧ i = .int .i64 k ∧ wr.ownsRow w.heap.size 5 1 (.slice A' n c') n (bcs (upd l b a k)) ∧ Below w.heap.size w wr) (fun i _ => m - (intOf i).toNat)
  case atStart => exact ⟨0, Nat.zero_le _, rfl, HO.out, HB3.out⟩
  case round =>
    obtain ⟨k, hk, rfl, hown, hb⟩ := hrel
    have hd := HD.out; have hn := HN.out
    by_cases hkm : k < m
    · have hki : (k : Int) < (m : Int) := by omega
      obtain ⟨y, hy⟩ := HC.out k hkm
      obtain ⟨b2, o2, rfl, _⟩ := HH2.out.addr (by rw [bcs_length, HMM.out]; omega)
      have hc := (HH2.out.below hb).cell (bcs_at hy)
      obtain ⟨g, rfl⟩ : ∃ g, A' = some ⟨g, 0, none⟩ := by
        rcases hown.2 with ⟨_, hz⟩ | ⟨g, cap5, _, hv, _⟩
        · omega
        · injection hv with hv _ _; exact ⟨g, hv⟩
      have hii : (a : Int) + (k : Int) < (n : Int) := by omega
      have hi0 : 0 ≤ (a : Int) + (k : Int) := by omega
      have hit : ((a : Int) + (k : Int)).toNat = a + k := by omega
      have hwr : IntKind.i64.wrap ((a : Int) + (k : Int)) = (a : Int) + (k : Int) := IntWalk.i64_in _ (by omega)
      have hm5 : (m : Int) ≤ 512 := by omega
      have hxl : (bcs (upd l b a k)).length = n := by have := HMM.out; have := HNN.out; rw [bcs_length, upd_len _ _ _ _ (by omega) (by omega)]; omega
      have hcg := hown.cellAt (a + k) (by omega)
      obtain ⟨z, hz⟩ : ∃ z, (bcs (upd l b a k))[a + k]? = some z := ⟨_, List.getElem?_eq_getElem (by omega)⟩
      rw [hz] at hcg
      have hfg := hown.frozenAt (a + k)
      have hlt := (hown.lt g rfl).1
      have hst := (hown.stored (a + k) (.int .u8 (y.toNat : Int))).1
      rw [HS.out k y hy] at hst
      have HB := Lib.hid (hb.setCell (p := ⟨g, a + k, none⟩) hlt (.int .u8 (y.toNat : Int))); have HST := Lib.hid hst
      clear hst hb hown hy hxl hd hn hz hk
      go_wp2_with fail
      go_roundw
      case rel => exact ⟨k + 1, by omega, by go_num, HST.out, HB.out⟩
      case measure => simp [intOf]; omega
    · obtain rfl : k = m := by omega
      have HB := Lib.hid hb
      rw [HA.out] at hown
      have HO2 := Lib.hid hown
      clear hown hb hd hn
      go_wp2_with fail
      refine bodyPost_ret (v := .tuple #[.slice A' n c', .int .i64 0]) (by simp [results, Try.results20, go_sem]) rfl ⟨_, rfl, A', c', by rw [HL.out], by rw [HL.out]; exact HO2.out, HB.out⟩
theorem rwrite (l b : List UInt8) (A A2 : Option Addr) (c d : Nat) (i : Int) (w : World) (h : Rd w A (bcs l)) (h2 : Rd w A2 (bcs b)) :
    Calls Try.prog 20 #[.slice A l.length c, .int .i64 i, .slice A2 b.length d] w fun e w' => ∃ v, e = .returned (.tuple #[v, .int .i64 (thereE l.length i b.length)]) ∧ CopyOf (written l b i) w v w' := by
  have hempty : CopyOf [] w (.slice none 0 0) w := ⟨none, 0, rfl, World.ownsRow_nil _ _ _ _, Below.refl _ _⟩
  by_cases h1 : 512 < l.length
  · have e := there_long h1 i b.length
    rw [show written l b i = [] by unfold written; rw [e]; rfl, e]
    exact (rwrite_no l b.length A A2 c d i 3 e rfl w).mono fun e w' ⟨he, hw⟩ => ⟨_, he, hw ▸ hempty⟩
  · by_cases h3 : 0 ≤ i ∧ 0 ≤ (b.length : Int) ∧ i + b.length ≤ l.length
    · have e := there_in (by omega) h3
      obtain ⟨a, rfl⟩ := Int.eq_ofNat_of_zero_le h3.1
      rw [e]
      exact rwrite_ok l b A A2 c d a e (by omega) (by omega) w h h2
    · have e := there_out (by omega) h3
      rw [show written l b i = [] by unfold written; rw [e]; rfl, e]
      exact (rwrite_no l b.length A A2 c d i 180 e rfl w).mono fun e w' ⟨he, hw⟩ => ⟨_, he, hw ▸ hempty⟩
end Go.Proofs.Ytjliaojanmbicaa.mem
