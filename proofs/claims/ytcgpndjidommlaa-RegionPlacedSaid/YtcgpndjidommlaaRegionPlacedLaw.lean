/- The law RegionPlaced: its walk. -/
import Derived.Test.YtcgpndjidommlaaRows
import Derived.Test.YtcgpndjidommlaaRegG
import Derived.Laws.OwnMore
import Derived.Test.YtcgpndjidommlaaRegP
import Derived.Test.YtcgpndjidommlaaRegionAllLaw
namespace Go.Proofs.Ytcgpndjidommlaa.reg.placed
open Go Go.ChangeShapes Go.WideShapes Go.ChangeAt Go.RowKit Go.Proofs.Ytcgpndjidommlaa.reg
theorem own_below {w w' : World} {base : Nat} {e : TypeId} {size n : Nat} {v : Value} {xs : List Value} (h : w.ownsRow base e size v n xs) (hb : Below w.heap.size w w') : w'.ownsRow base e size v n xs := by
  refine ⟨h.1, ?_⟩
  rcases h.2 with hn | ⟨g, cap, cur, rfl, hb0, hgg, rest⟩
  · exact .inl hn
  · exact .inr ⟨g, cap, cur, rfl, hb0, (hb.block g (Array.getElem?_eq_some_iff.1 hgg).1).trans hgg, rest⟩
theorem all_snoc {l : List Reg} (hE : allE l = 0) {size base : Int} (hm : mayR base size = true) : allE (l ++ [(base, size)]) = 0 ↔ fitsAt l size base = true := by
  have h5 := (mayR_iff.1 hm).2.2.2.2.2.2
  have hf : fitsAt l size base = true ↔ ∀ p ∈ l, apartR p.1 p.2 base size = true := by
    unfold fitsAt
    rw [decide_eq_true h5, Bool.true_and, Bool.not_eq_true', List.any_eq_false]
    simp
  rw [hf]
  constructor
  · intro h p hp
    obtain ⟨i, hi⟩ := List.mem_iff_getElem?.1 hp
    have hil := (List.getElem?_eq_some_iff.1 hi).1
    exact apart_of (q := (base, size)) h (i := i) (k := l.length) (by rw [List.getElem?_append_left hil]; exact hi) (by simp) (by omega)
  · intro h
    apply allE_ok
    · rw [List.take_length, List.all_append, (good_of hE).1]; simp [mayP, hm]
    · intro i k hk hi
      rw [List.length_append, List.length_singleton] at hi
      have hkl : k < l.length := by omega
      have hkk : (l ++ [(base, size)])[k]?.getD (0, 0) = l[k] := by rw [List.getElem?_append_left hkl, List.getElem?_eq_getElem hkl]; rfl
      unfold apartAt apartP
      by_cases hil : i < l.length
      · have := (good_of hE).2 i k hk hil
        unfold apartAt apartP at this
        rw [List.getElem?_append_left hil, List.getElem?_append_left hkl]
        exact this
      · obtain rfl : i = l.length := by omega
        rw [hkk, show (l ++ [(base, size)])[l.length]?.getD (0, 0) = (base, size) by simp, apart_comm]
        exact h _ (List.getElem_mem hkl)
theorem may4 {size : Int} (hm : mayR 0 size = true) {j : Nat} (h : 4 * (j : Int) + size ≤ 4096) : mayR (4 * (j : Int)) size = true := by
  have := mayR_iff.1 hm
  rw [mayR_iff]; omega
theorem long (l : List Reg) (A : Option Addr) (c : Nat) (size : Int) (h : 20 < l.length) (w : World) : Calls Try.prog 6 #[.slice A l.length c, .int .i64 size] w fun e w' => e = .returned (.bool true) ∧ Below w.heap.size w w' := by
  have h1 : (20 : Int) < (l.length : Int) := by omega
  go_enter Try.func6, Try.ntmps6
  go_wp2_with fail
  refine (awake _).mono ?_
  rintro e w1 ⟨rfl, b1⟩
  have B1 := Lib.hid b1; clear b1
  go_wp2
  go_ret
  exact ⟨rfl, B1.out⟩
theorem bad (l : List Reg) (A : Option Addr) (c : Nat) (hc : l.length ≤ c) (size : Int) (h20 : ¬ 20 < l.length) (hE : ¬ allE l = 0) (w : World) (h : Rd w A (regCells l)) : Calls Try.prog 6 #[.slice A l.length c, .int .i64 size] w fun e w' => e = .returned (.bool true) ∧ Below w.heap.size w w' := by
  have T := all_any l A c hc (by omega) w h
  have h1 : ¬ (20 : Int) < (l.length : Int) := by omega
  have h2 : (allE l == 0) = false := by simpa using hE
  have h3 : (allE l != 0) = true := by simpa using hE
  have h4 : decide (allE l = 0) = false := by simpa using hE
  have HT := Lib.hid T
  clear T h hE hc h20
  generalize allE l = E at *
  go_enter Try.func6, Try.ntmps6
  go_wp2_with fail
  refine HT.out.mono ?_
  rintro e w1 ⟨rfl, b1⟩
  have B1 := Lib.hid b1; clear b1
  go_wp2_with fail
  refine (awake _).mono ?_
  rintro e w2 ⟨rfl, b2⟩
  have B2 := Lib.hid (B1.out.trans (b2.mono B1.out.size)); clear b2
  go_wp2
  go_ret
  exact ⟨rfl, B2.out⟩
theorem arg (l : List Reg) (A : Option Addr) (c : Nat) (hc : l.length ≤ c) (size : Int) (h20 : ¬ 20 < l.length) (hE : allE l = 0) (hm : mayR 0 size = false) (w : World) (h : Rd w A (regCells l)) : Calls Try.prog 6 #[.slice A l.length c, .int .i64 size] w fun e w' => e = .returned (.bool true) ∧ Below w.heap.size w w' := by
  have T := all_any l A c hc (by omega) w h
  rw [hE] at T
  have T2 := may 0 size
  rw [hm] at T2
  have h1 : ¬ (20 : Int) < (l.length : Int) := by omega
  have HT := Lib.hid T; have HT2 := Lib.hid T2
  clear T T2 h hE hc h20 hm
  go_enter Try.func6, Try.ntmps6
  go_wp2_with fail
  refine HT.out.mono ?_
  rintro e w1 ⟨rfl, b1⟩
  have B1 := Lib.hid b1; clear b1
  go_wp2_with fail
  refine (of_any _ _ _).mono ?_
  rintro e w2 ⟨rfl, b2⟩
  have B2 := Lib.hid (B1.out.trans (b2.mono B1.out.size)); clear b2
  go_wp2_with fail
  refine (HT2.out _).mono ?_
  rintro e w3 ⟨rfl, b3⟩
  have B3 := Lib.hid (B2.out.trans (b3.mono B2.out.size)); clear b3
  go_wp2_with fail
  refine (awake _).mono ?_
  rintro e w4 ⟨rfl, b4⟩
  have B4 := Lib.hid (B3.out.trans (b4.mono B3.out.size)); clear b4
  go_wp2
  go_ret
  exact ⟨rfl, B4.out⟩
set_option maxRecDepth 100000 in
set_option maxHeartbeats 4000000 in
theorem some_ (l : List Reg) (A : Option Addr) (c : Nat) (hc : l.length ≤ c) (size : Int) (h20 : ¬ 20 < l.length) (hE : allE l = 0) (hm : mayR 0 size = true) (k : Nat) (hk : fitsAt l size (4 * (k : Int)) = true) (hno : ∀ j : Nat, j < k → fitsAt l size (4 * (j : Int)) = false) (w : World) (h : Rd w A (regCells l)) : Calls Try.prog 6 #[.slice A l.length c, .int .i64 size] w fun e w' => e = .returned (.bool true) ∧ Below w.heap.size w w' := by
  have T := all_any l A c hc (by omega) w h
  rw [hE] at T
  have T2 := may 0 size
  rw [hm] at T2
  have T3 : ∀ w : World, Rd w A (regCells l) → Calls Try.prog 16 #[.slice A l.length c, .int .i64 size] w fun e w' => e = .returned (.tuple #[.agg #[.int .i64 (placeV l size).1.1, .int .i64 (placeV l size).1.2], .int .i64 (placeV l size).2]) ∧ Below w.heap.size w w' := fun w h => place l A c hc (by omega) size w h
  rw [placeV_some (by omega) hE hm k hk hno] at T3
  obtain ⟨i0, hi, hz0, hz1, hz2⟩ := info_parts all.info_reg
  have h1 : ¬ (20 : Int) < (l.length : Int) := by omega
  have h20i : l.length ≤ 20 := by omega
  obtain ⟨_, _, _, hs4, hs1, hs2, _⟩ := mayR_iff.1 hm
  have hall := fun (j : Nat) (hj : 4 * (j : Int) + size ≤ 4096) => all_snoc hE (may4 hm hj)
  have TA := fun (base : Int) (A : Option Addr) (c : Nat) (hc : (l ++ [(base, size)]).length ≤ c) (w : World) h => all_any (l ++ [(base, size)]) A c hc (by simp; omega) w h
  have hcat := fun base : Int => regCells_append l [(base, size)]
  have hn := regCells_length l
  have hl1 := regCells_one l
  have HT := Lib.hid T; have HT2 := Lib.hid T2; have HT3 := Lib.hid T3; have H := Lib.hid h; have HALL := Lib.hid hall; have HTA := Lib.hid TA; have HCAT := Lib.hid hcat; have HN := Lib.hid hn; have HL := Lib.hid h20i; have HL1 := Lib.hid hl1
  clear T T2 T3 h hall TA hcat hn h20i hl1 hE hm hs4 hc h20
  go_enter Try.func6, Try.ntmps6
  go_wp2_with fail
  refine HT.out.mono ?_
  rintro e w1 ⟨rfl, b1⟩
  have B1 := Lib.hid b1; clear b1
  go_wp2_with fail
  refine (of_any _ _ _).mono ?_
  rintro e w2 ⟨rfl, b2⟩
  have B2 := Lib.hid (B1.out.trans (b2.mono B1.out.size)); clear b2
  go_wp2_with fail
  refine (HT2.out _).mono ?_
  rintro e w3 ⟨rfl, b3⟩
  have B3 := Lib.hid (B2.out.trans (b3.mono B2.out.size)); clear b3
  go_wp2_with fail
  refine (HT3.out _ (H.out.below B3.out)).mono ?_
  rintro e w4 ⟨rfl, b4⟩
  have hb4 := B3.out.trans (b4.mono B3.out.size)
  have B4 := Lib.hid (hb4.alloc hb4.size (.cells #[.int .i64 (4 * (k : Int)), .int .i64 size] 23))
  have D4 := Lib.hid (blk_new w4 #[.int .i64 (4 * (k : Int)), .int .i64 size] 23)
  have z4 : w4.heap.size < (w4.alloc (.cells #[.int .i64 (4 * (k : Int)), .int .i64 size] 23)).heap.size := by simp
  clear b4 hb4
  go_wp2_with fail
  generalize w4.alloc (.cells #[.int .i64 (4 * (k : Int)), .int .i64 size] 23) = W0 at *
  have HK5 := Lib.hid (show 4 * (k : Int) + size ≤ 4096 by unfold fitsAt at hk; rw [Bool.and_eq_true] at hk; exact of_decide_eq_true hk.1)
  have HYES := Lib.hid hk; have HNO := Lib.hid hno
  clear hk hno
  go_loopw [7] (fun i wr => ∃ j : Nat, j ≤ k ∧ i = .int .i64 (4 * (j : Int)) ∧ Below W0.heap.size W0 wr) (fun i _ => (5000 - intOf i).toNat)
  case atStart => exact ⟨0, Nat.zero_le _, rfl, Below.refl _ _⟩
  case round =>
    obtain ⟨j, hj, rfl, hb⟩ := hrel
    have HB := Lib.hid hb; have hz := hb.size
    clear hb
    have hfit : 4 * (j : Int) + size ≤ 4096 := by have := HK5.out; omega
    by_cases hjk : j < k
    · have hno : ¬ allE (l ++ [(4 * (j : Int), size)]) = 0 := fun e => by have := (HALL.out j hfit).1 e; rw [HNO.out j hjk] at this; cases this
      have HNO2 := Lib.hid (show (allE (l ++ [(4 * (j : Int), size)]) == 0) = false by simpa using hno)
      have q2 : ((4 * (j : Int)) == 4 * (k : Int)) = false := by rw [beq_eq_false_iff_ne]; omega
      have q3 : 4 * (j : Int) ≤ 4 * (k : Int) := by omega
      clear hno
      have hr0 := (H.out.below B4.out).below HB.out
      have hown : (wr.alloc (.cells #[] 23)).ownsRow wr.heap.size 23 2 (.slice (some ⟨wr.heap.size, 0, none⟩) 0 0) 0 [] := World.ownsRow_lit wr #[] 0 (Nat.le_refl _) (by decide) rfl
      have hr2 := hr0.alloc (.cells #[] 23)
      go_wp2_with (at_builtin; refine wpList_append_rd _ rfl (.tmp 36) (.tmp 37) 30 rfl wr.heap.size 23 i0 (.agg #[.int .i64 0, .int .i64 0]) 2 16 Try.underlying30 hi hz0 hz1 hz2 rfl (by decide) _ 0 [] rfl hown _ l.length _ (regCells l) rfl HN.out hr2 HL1.out ?c3 ?c4 (by simp) ?_)
      case c3 => have := HL.out; unfold maxLen; omega
      case c4 => have := HL.out; omega
      intro v' w5 hown5 hg
      have b5 : Below wr.heap.size wr w5 := below_own ((Below.refl _ wr).alloc (Nat.le_refl _) _) hown hg (by simp)
      obtain ⟨A5, c5, rfl, hc5, _⟩ := own_form hown5
      have O5 := Lib.hid hown5; have B5 := Lib.hid b5
      clear hown5 hg hown hr2 hr0 b5
      go_wp2_with fail
      refine (of_any _ _ _).mono ?_
      rintro e w6 ⟨rfl, b6⟩
      have O6 := Lib.hid (own_below O5.out b6); have B6 := Lib.hid (B5.out.trans (b6.mono B5.out.size)); have z6 := B6.out.size
      clear b6
      go_wp2_with (at_builtin; refine wpList_append_rd _ rfl (.tmp 38) (.tmp 42) 30 rfl wr.heap.size 23 i0 (.agg #[.int .i64 0, .int .i64 0]) 2 16 Try.underlying30 hi hz0 hz1 hz2 rfl (by decide) _ l.length (regCells l) rfl (O6.out.alloc _) _ 1 _ [.int .i64 (4 * (j : Int)), .int .i64 size] rfl rfl (Rd.new _ _ _) ?d2 ?d3 ?d4 ?d5 ?_)
      case d2 => intro u hu; simp at hu; rcases hu with rfl | rfl <;> rfl
      case d3 => have := HL.out; unfold maxLen; omega
      case d4 => have := HL.out; omega
      case d5 => simp; omega
      intro v'' w7 hown7 hg
      have b7 : Below wr.heap.size wr w7 := below_own (B6.out.alloc z6 _) (O6.out.alloc _) hg (by simp; omega)
      rw [show regCells l ++ [Value.int .i64 (4 * (j : Int)), .int .i64 size] = regCells (l ++ [(4 * (j : Int), size)]) from (HCAT.out _).symm] at hown7
      obtain ⟨A7, c7, rfl, hc7, hr7⟩ := own_form hown7
      have TT := HTA.out (4 * (j : Int)) A7 c7 (by simpa using hc7) w7 hr7
      rw [show (l ++ [(4 * (j : Int), size)]).length = l.length + 1 by simp] at TT
      have HTT := Lib.hid TT; have B7 := Lib.hid b7
      clear TT b7 hown7 hg hr7 hc7
      go_wp2_with fail
      have q1 := HNO2.out
      generalize allE (l ++ [(4 * (j : Int), size)]) = EE at *
      refine HTT.out.mono ?_
      rintro e w8 ⟨rfl, b8⟩
      have B8 := Lib.hid (HB.out.trans ((B7.out.trans (b8.mono B7.out.size)).mono hz))
      clear b8
      have d8 := blk_below D4.out B8.out z4
      have d80 := blk_cell d8 0
      clear d8
      go_wp2_with fail
      go_roundw
      case rel => exact ⟨j + 1, by omega, by (congr 1) <;> omega, B8.out⟩
      case measure => simp [intOf]; omega
    · obtain rfl : j = k := by omega
      have hyes : allE (l ++ [(4 * (j : Int), size)]) = 0 := (HALL.out j hfit).2 HYES.out
      have HYES2 := Lib.hid hyes
      clear hyes
      have hr0 := (H.out.below B4.out).below HB.out
      have hown : (wr.alloc (.cells #[] 23)).ownsRow wr.heap.size 23 2 (.slice (some ⟨wr.heap.size, 0, none⟩) 0 0) 0 [] := World.ownsRow_lit wr #[] 0 (Nat.le_refl _) (by decide) rfl
      have hr2 := hr0.alloc (.cells #[] 23)
      go_wp2_with (at_builtin; refine wpList_append_rd _ rfl (.tmp 36) (.tmp 37) 30 rfl wr.heap.size 23 i0 (.agg #[.int .i64 0, .int .i64 0]) 2 16 Try.underlying30 hi hz0 hz1 hz2 rfl (by decide) _ 0 [] rfl hown _ l.length _ (regCells l) rfl HN.out hr2 HL1.out ?c3 ?c4 (by simp) ?_)
      case c3 => have := HL.out; unfold maxLen; omega
      case c4 => have := HL.out; omega
      intro v' w5 hown5 hg
      have b5 : Below wr.heap.size wr w5 := below_own ((Below.refl _ wr).alloc (Nat.le_refl _) _) hown hg (by simp)
      obtain ⟨A5, c5, rfl, hc5, _⟩ := own_form hown5
      have O5 := Lib.hid hown5; have B5 := Lib.hid b5
      clear hown5 hg hown hr2 hr0 b5
      go_wp2_with fail
      refine (of_any _ _ _).mono ?_
      rintro e w6 ⟨rfl, b6⟩
      have O6 := Lib.hid (own_below O5.out b6); have B6 := Lib.hid (B5.out.trans (b6.mono B5.out.size)); have z6 := B6.out.size
      clear b6
      go_wp2_with (at_builtin; refine wpList_append_rd _ rfl (.tmp 38) (.tmp 42) 30 rfl wr.heap.size 23 i0 (.agg #[.int .i64 0, .int .i64 0]) 2 16 Try.underlying30 hi hz0 hz1 hz2 rfl (by decide) _ l.length (regCells l) rfl (O6.out.alloc _) _ 1 _ [.int .i64 (4 * (j : Int)), .int .i64 size] rfl rfl (Rd.new _ _ _) ?d2 ?d3 ?d4 ?d5 ?_)
      case d2 => intro u hu; simp at hu; rcases hu with rfl | rfl <;> rfl
      case d3 => have := HL.out; unfold maxLen; omega
      case d4 => have := HL.out; omega
      case d5 => simp; omega
      intro v'' w7 hown7 hg
      have b7 : Below wr.heap.size wr w7 := below_own (B6.out.alloc z6 _) (O6.out.alloc _) hg (by simp; omega)
      rw [show regCells l ++ [Value.int .i64 (4 * (j : Int)), .int .i64 size] = regCells (l ++ [(4 * (j : Int), size)]) from (HCAT.out _).symm] at hown7
      obtain ⟨A7, c7, rfl, hc7, hr7⟩ := own_form hown7
      have TT := HTA.out (4 * (j : Int)) A7 c7 (by simpa using hc7) w7 hr7
      rw [show (l ++ [(4 * (j : Int), size)]).length = l.length + 1 by simp] at TT
      have HTT := Lib.hid TT; have B7 := Lib.hid b7
      clear TT b7 hown7 hg hr7 hc7
      go_wp2_with fail
      have hyes2 : allE (l ++ [(4 * (j : Int), size)]) = 0 := HYES2.out
      rw [hyes2] at HTT
      clear hyes2
      refine HTT.out.mono ?_
      rintro e w8 ⟨rfl, b8⟩
      have B8 := Lib.hid (HB.out.trans ((B7.out.trans (b8.mono B7.out.size)).mono hz))
      clear b8
      have D8 := Lib.hid (blk_below D4.out B8.out z4)
      have d80 := blk_cell D8.out 0
      go_wp2_with fail
      clear d80
      have y00 : ∀ x : Ext w8.heap.size w8, x.world.cell? ⟨w4.heap.size, 0, none⟩ = some (.int .i64 (4 * (j : Int))) := fun x => (x.cell _ _ (blk_lt D8.out)).trans (blk_cell D8.out 0)
      have y01 : ∀ x : Ext w8.heap.size w8, x.world.cell? ⟨w4.heap.size, 1, none⟩ = some (.int .i64 size) := fun x => (x.cell _ _ (blk_lt D8.out)).trans (blk_cell D8.out 1)
      refine region_ext (by kernel_rfl) (by kernel_rfl) ?_
      repeat (go_big_quiet_step (first | (with_reducible exact calls_ext (Nat.le_refl _) (of_any _ _ _)) | (with_reducible exact calls_ext (Nat.le_refl _) (awake _))))
      refine wpQuiet_nil ?_
      intro z
      go_wp2
      go_ret
      exact ⟨rfl, B4.out.trans ((B8.out.trans (z.below.mono B8.out.size)).mono B4.out.size)⟩
set_option maxRecDepth 100000 in
set_option maxHeartbeats 4000000 in
theorem none_ (l : List Reg) (A : Option Addr) (c : Nat) (hc : l.length ≤ c) (size : Int) (h20 : ¬ 20 < l.length) (hE : allE l = 0) (hm : mayR 0 size = true) (hno : ∀ j : Nat, j < 1024 → fitsAt l size (4 * (j : Int)) = false) (w : World) (h : Rd w A (regCells l)) : Calls Try.prog 6 #[.slice A l.length c, .int .i64 size] w fun e w' => e = .returned (.bool true) ∧ Below w.heap.size w w' := by
  have T := all_any l A c hc (by omega) w h
  rw [hE] at T
  have T2 := may 0 size
  rw [hm] at T2
  have T3 : ∀ w : World, Rd w A (regCells l) → Calls Try.prog 16 #[.slice A l.length c, .int .i64 size] w fun e w' => e = .returned (.tuple #[.agg #[.int .i64 (placeV l size).1.1, .int .i64 (placeV l size).1.2], .int .i64 (placeV l size).2]) ∧ Below w.heap.size w w' := fun w h => place l A c hc (by omega) size w h
  rw [placeV_none (by omega) hE hm hno] at T3
  obtain ⟨i0, hi, hz0, hz1, hz2⟩ := info_parts all.info_reg
  have h1 : ¬ (20 : Int) < (l.length : Int) := by omega
  have h20i : l.length ≤ 20 := by omega
  obtain ⟨_, _, _, hs4, hs1, hs2, _⟩ := mayR_iff.1 hm
  have hall := fun (j : Nat) (hj : 4 * (j : Int) + size ≤ 4096) => all_snoc hE (may4 hm hj)
  have TA := fun (base : Int) (A : Option Addr) (c : Nat) (hc : (l ++ [(base, size)]).length ≤ c) (w : World) h => all_any (l ++ [(base, size)]) A c hc (by simp; omega) w h
  have hcat := fun base : Int => regCells_append l [(base, size)]
  have hn := regCells_length l
  have hl1 := regCells_one l
  have HT := Lib.hid T; have HT2 := Lib.hid T2; have HT3 := Lib.hid T3; have H := Lib.hid h; have HALL := Lib.hid hall; have HTA := Lib.hid TA; have HCAT := Lib.hid hcat; have HN := Lib.hid hn; have HL := Lib.hid h20i; have HL1 := Lib.hid hl1
  clear T T2 T3 h hall TA hcat hn h20i hl1 hE hm hs4 hc h20
  go_enter Try.func6, Try.ntmps6
  go_wp2_with fail
  refine HT.out.mono ?_
  rintro e w1 ⟨rfl, b1⟩
  have B1 := Lib.hid b1; clear b1
  go_wp2_with fail
  refine (of_any _ _ _).mono ?_
  rintro e w2 ⟨rfl, b2⟩
  have B2 := Lib.hid (B1.out.trans (b2.mono B1.out.size)); clear b2
  go_wp2_with fail
  refine (HT2.out _).mono ?_
  rintro e w3 ⟨rfl, b3⟩
  have B3 := Lib.hid (B2.out.trans (b3.mono B2.out.size)); clear b3
  go_wp2_with fail
  refine (HT3.out _ (H.out.below B3.out)).mono ?_
  rintro e w4 ⟨rfl, b4⟩
  have hb4 := B3.out.trans (b4.mono B3.out.size)
  have B4 := Lib.hid (hb4.alloc hb4.size (.cells #[.int .i64 0, .int .i64 0] 23))
  have D4 := Lib.hid (blk_new w4 #[.int .i64 0, .int .i64 0] 23)
  have z4 : w4.heap.size < (w4.alloc (.cells #[.int .i64 0, .int .i64 0] 23)).heap.size := by simp
  clear b4 hb4
  go_wp2_with fail
  generalize w4.alloc (.cells #[.int .i64 0, .int .i64 0] 23) = W0 at *
  have HNO := Lib.hid hno
  clear hno
  go_loopw [7] (fun i wr => ∃ j : Nat, j ≤ 1024 ∧ i = .int .i64 (4 * (j : Int)) ∧ Below W0.heap.size W0 wr) (fun i _ => (5000 - intOf i).toNat)
  case atStart => exact ⟨0, Nat.zero_le _, rfl, Below.refl _ _⟩
  case round =>
    obtain ⟨j, hj, rfl, hb⟩ := hrel
    have HB := Lib.hid hb; have hz := hb.size
    clear hb
    by_cases hfit : 4 * (j : Int) + size ≤ 4096
    · have hno : ¬ allE (l ++ [(4 * (j : Int), size)]) = 0 := fun e => by have := (HALL.out j hfit).1 e; rw [HNO.out j (by omega)] at this; cases this
      have HNO2 := Lib.hid (show (allE (l ++ [(4 * (j : Int), size)]) == 0) = false by simpa using hno)
      clear hno
      have hr0 := (H.out.below B4.out).below HB.out
      have hown : (wr.alloc (.cells #[] 23)).ownsRow wr.heap.size 23 2 (.slice (some ⟨wr.heap.size, 0, none⟩) 0 0) 0 [] := World.ownsRow_lit wr #[] 0 (Nat.le_refl _) (by decide) rfl
      have hr2 := hr0.alloc (.cells #[] 23)
      go_wp2_with (at_builtin; refine wpList_append_rd _ rfl (.tmp 36) (.tmp 37) 30 rfl wr.heap.size 23 i0 (.agg #[.int .i64 0, .int .i64 0]) 2 16 Try.underlying30 hi hz0 hz1 hz2 rfl (by decide) _ 0 [] rfl hown _ l.length _ (regCells l) rfl HN.out hr2 HL1.out ?c3 ?c4 (by simp) ?_)
      case c3 => have := HL.out; unfold maxLen; omega
      case c4 => have := HL.out; omega
      intro v' w5 hown5 hg
      have b5 : Below wr.heap.size wr w5 := below_own ((Below.refl _ wr).alloc (Nat.le_refl _) _) hown hg (by simp)
      obtain ⟨A5, c5, rfl, hc5, _⟩ := own_form hown5
      have O5 := Lib.hid hown5; have B5 := Lib.hid b5
      clear hown5 hg hown hr2 hr0 b5
      go_wp2_with fail
      refine (of_any _ _ _).mono ?_
      rintro e w6 ⟨rfl, b6⟩
      have O6 := Lib.hid (own_below O5.out b6); have B6 := Lib.hid (B5.out.trans (b6.mono B5.out.size)); have z6 := B6.out.size
      clear b6
      go_wp2_with (at_builtin; refine wpList_append_rd _ rfl (.tmp 38) (.tmp 42) 30 rfl wr.heap.size 23 i0 (.agg #[.int .i64 0, .int .i64 0]) 2 16 Try.underlying30 hi hz0 hz1 hz2 rfl (by decide) _ l.length (regCells l) rfl (O6.out.alloc _) _ 1 _ [.int .i64 (4 * (j : Int)), .int .i64 size] rfl rfl (Rd.new _ _ _) ?d2 ?d3 ?d4 ?d5 ?_)
      case d2 => intro u hu; simp at hu; rcases hu with rfl | rfl <;> rfl
      case d3 => have := HL.out; unfold maxLen; omega
      case d4 => have := HL.out; omega
      case d5 => simp; omega
      intro v'' w7 hown7 hg
      have b7 : Below wr.heap.size wr w7 := below_own (B6.out.alloc z6 _) (O6.out.alloc _) hg (by simp; omega)
      rw [show regCells l ++ [Value.int .i64 (4 * (j : Int)), .int .i64 size] = regCells (l ++ [(4 * (j : Int), size)]) from (HCAT.out _).symm] at hown7
      obtain ⟨A7, c7, rfl, hc7, hr7⟩ := own_form hown7
      have TT := HTA.out (4 * (j : Int)) A7 c7 (by simpa using hc7) w7 hr7
      rw [show (l ++ [(4 * (j : Int), size)]).length = l.length + 1 by simp] at TT
      have HTT := Lib.hid TT; have B7 := Lib.hid b7
      clear TT b7 hown7 hg hr7 hc7
      go_wp2_with fail
      have q1 := HNO2.out
      generalize allE (l ++ [(4 * (j : Int), size)]) = EE at *
      refine HTT.out.mono ?_
      rintro e w8 ⟨rfl, b8⟩
      have B8 := Lib.hid (HB.out.trans ((B7.out.trans (b8.mono B7.out.size)).mono hz))
      clear b8
      have d8 := blk_below D4.out B8.out z4
      have d80 := blk_cell d8 0
      clear d8
      go_wp2_with fail
      go_roundw
      case rel => exact ⟨j + 1, by omega, by (congr 1) <;> omega, B8.out⟩
      case measure => simp [intOf]; omega
    · have D8 := Lib.hid (blk_below D4.out HB.out z4)
      go_wp2_with fail
      have y00 : ∀ x : Ext wr.heap.size wr, x.world.cell? ⟨w4.heap.size, 0, none⟩ = some (.int .i64 0) := fun x => (x.cell _ _ (blk_lt D8.out)).trans (blk_cell D8.out 0)
      have y01 : ∀ x : Ext wr.heap.size wr, x.world.cell? ⟨w4.heap.size, 1, none⟩ = some (.int .i64 0) := fun x => (x.cell _ _ (blk_lt D8.out)).trans (blk_cell D8.out 1)
      refine region_ext (by kernel_rfl) (by kernel_rfl) ?_
      repeat (go_big_quiet_step (first | (with_reducible exact calls_ext (Nat.le_refl _) (of_any _ _ _)) | (with_reducible exact calls_ext (Nat.le_refl _) (awake _))))
      refine wpQuiet_nil ?_
      intro z
      go_wp2
      go_ret
      exact ⟨rfl, B4.out.trans ((HB.out.trans (z.below.mono hz)).mono B4.out.size)⟩
theorem first_or (p : Nat → Bool) : ∀ n : Nat, (∀ j, j < n → p j = false) ∨ ∃ k, k < n ∧ p k = true ∧ ∀ j, j < k → p j = false
  | 0 => .inl fun j h => absurd h (Nat.not_lt_zero _)
  | n + 1 => by
    rcases first_or p n with h | ⟨k, h1, h2, h3⟩
    · cases hp : p n with
      | true => exact .inr ⟨n, by omega, hp, h⟩
      | false => exact .inl fun j hj => (Nat.lt_or_eq_of_le (Nat.lt_succ_iff.1 hj)).elim (h j) (fun e => e ▸ hp)
    · exact .inr ⟨k, by omega, h2, h3⟩
theorem law (l : List Reg) (A : Option Addr) (c : Nat) (hc : l.length ≤ c) (size : Int) (w : World) (h : Rd w A (regCells l)) : Calls Try.prog 6 #[.slice A l.length c, .int .i64 size] w fun e w' => e = .returned (.bool true) ∧ Below w.heap.size w w' := by
  by_cases h20 : 20 < l.length
  · exact long l A c size h20 w
  by_cases hE : allE l = 0
  · cases hm : mayR 0 size with
    | false => exact arg l A c hc size h20 hE hm w h
    | true =>
      rcases first_or (fun k : Nat => fitsAt l size (4 * (k : Int))) 1024 with h3 | ⟨k, _, h4, h5⟩
      · exact none_ l A c hc size h20 hE hm h3 w h
      · exact some_ l A c hc size h20 hE hm k h4 h5 w h
  · exact bad l A c hc size h20 hE w h
end Go.Proofs.Ytcgpndjidommlaa.reg.placed
