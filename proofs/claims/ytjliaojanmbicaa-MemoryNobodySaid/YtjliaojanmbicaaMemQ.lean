/- memory.Phys; no condition. -/
import Derived.Test.YtjliaojanmbicaaRows
import Derived.Test.YtjliaojanmbicaaMemP
import Derived.Test.YtjliaojanmbicaaRegE2
import Derived.Deep.RegionLaw
import Derived.Lib.SmallJoins
import Derived.Lib.SlBytesConst
import Derived.Deep.RegionHeld3
namespace Go.Proofs.Ytjliaojanmbicaa.phys
open Go Go.ChangeShapes Go.WideShapes Go.ChangeAt Go.RowKit Go.Proofs.Ytjliaojanmbicaa.rows Go.Proofs.Ytjliaojanmbicaa.reg
theorem bcs_splice (L : List UInt8) (off : Nat) (m : List UInt8) : bcs (splice L off m) = splice (bcs L) off (bcs m) := by
  unfold splice
  rw [bcs_append, bcs_append, bcs_length, bcs_take, bcs_drop]
/-- Physical memory behind the first k regions. -/
def laid (l : List Reg) (ms : List Msg) : Nat → List UInt8
  | 0 => zs 4096
  | k + 1 => splice (laid l ms k) (l[k]?.getD (0, 0)).1.toNat (ms[k]?.getD [])
/-- The first k regions may be, and their memories are as long as they. -/
def Fits (l : List Reg) (ms : List Msg) (k : Nat) : Prop := ∀ j p m, j < k → l[j]? = some p → ms[j]? = some m → mayR p.1 p.2 = true ∧ (m.length : Int) = p.2
theorem Fits.next {l : List Reg} {ms : List Msg} {k : Nat} {p : Reg} {m : Msg} (h : Fits l ms k) (hp : l[k]? = some p) (hm : ms[k]? = some m) (h1 : mayR p.1 p.2 = true) (h2 : (m.length : Int) = p.2) : Fits l ms (k + 1) := fun j p' m' hj hp' hm' => by
  by_cases e : j = k
  · subst e
    rw [hp] at hp'; rw [hm] at hm'
    injection hp' with hp'; injection hm' with hm'
    subst hp'; subst hm'
    exact ⟨h1, h2⟩
  · exact h j p' m' (by omega) hp' hm'
theorem Fits.all {l : List Reg} {ms : List Msg} (hl : l.length = ms.length) (h : Fits l ms l.length) : l.all mayP = true := by
  refine List.all_eq_true.2 fun p hp => ?_
  obtain ⟨j, hj, e⟩ := List.getElem_of_mem hp
  exact (h j p _ hj (by rw [List.getElem?_eq_getElem hj, e]) (List.getElem?_eq_getElem (by omega))).1
theorem laid_length {l : List Reg} {ms : List Msg} (hl : l.length = ms.length) (h : Fits l ms l.length) : ∀ k, k ≤ l.length → (laid l ms k).length = 4096
  | 0, _ => zs_length 4096
  | k + 1, hk => by
    have ih := laid_length hl h k (by omega)
    obtain ⟨p, hp⟩ : ∃ p, l[k]? = some p := ⟨_, List.getElem?_eq_getElem (by omega)⟩
    obtain ⟨m, hm⟩ : ∃ m, ms[k]? = some m := ⟨_, List.getElem?_eq_getElem (by omega)⟩
    obtain ⟨h1, h2⟩ := h k p m (by omega) hp hm
    have h3 := mayR_iff.1 h1
    unfold laid
    rw [hp, hm]
    simp only [Option.getD_some]
    rw [length_splice _ _ _ (by rw [ih]; omega), ih]
theorem allE_may {l : List Reg} (h : l.all mayP = true) : allE l = 0 ∨ allE l = 121 := by
  unfold allE
  rw [if_pos h]
  split
  · exact .inl rfl
  · exact .inr rfl
/-- What is told of physical memory: an error's number, or the bytes. -/
def POut (l : List Reg) (ms : List Msg) (w : World) (e : Ending) (w' : World) : Prop :=
  Below w.heap.size w w' ∧ ((¬ (l.length = ms.length ∧ Fits l ms l.length) ∧ e = .returned (.tuple #[.slice none 0 0, .int .i64 2])) ∨
    (l.length = ms.length ∧ Fits l ms l.length ∧ allE l = 121 ∧ e = .returned (.tuple #[.slice none 0 0, .int .i64 121])) ∨
    (l.length = ms.length ∧ Fits l ms l.length ∧ allE l = 0 ∧ ∃ g, e = .returned (.tuple #[.slice (some ⟨g, 0, none⟩) 4096 4096, .int .i64 0]) ∧ w.heap.size ≤ g ∧ w'.heap[g]? = some (.cells (bcs (laid l ms l.length)).toArray 5 (0, 0))))
theorem run_made4096 (w : World) : Sem.run Try.prog (Instr.makeSlice 22 (.int .i64 4096) (.int .i64 4096)) w = .ok (.slice (some ⟨w.heap.size, 0, none⟩) 4096 4096) (w.alloc (.cells (bcs (zs 4096)).toArray 5)) := run_made 4096 (Nat.le_refl _) w
set_option maxRecDepth 100000 in
set_option maxHeartbeats 4000000 in
theorem phys (l : List Reg) (ms : List Msg) (A A2 : Option Addr) (n c c2 : Nat) (hn : l.length = n) (hnc : n ≤ c) (n2 : Nat) (hn2 : ms.length = n2) (h63 : n ≤ 1000000) (h632 : n2 ≤ 1000000) (w : World) (h : Rd w A (regCells l)) (h2 : Rms w A2 ms) : Calls Try.prog 23 #[.slice A n c, .slice A2 n2 c2] w (POut l ms w) := by
  by_cases hne : n = n2
  rotate_left
  · have hni : ¬ (n : Int) = (n2 : Int) := by omega
    clear h h2
    go_enter Try.func23, Try.ntmps23
    go_wp2
    exact ret_tmp2 rfl rfl ⟨Below.refl _ _, .inl ⟨fun h => hne (by rw [← hn, ← hn2]; exact h.1), rfl⟩⟩
  subst hne
  have hli : (n : Int) ≤ 1000000 := by omega
  have H := Lib.hid h; have H2 := Lib.hid h2; have HN := Lib.hid hn; have HN2 := Lib.hid hn2
  have TA := fun (W : World) (g1 : Rd W A (regCells l)) => all_any l A c (by rw [hn]; exact hnc) (by omega) W g1
  rw [hn] at TA
  have HTA := Lib.hid TA
  clear h h2 hn hn2 TA
  go_enter Try.func23, Try.ntmps23
  go_wp2
  go_loopw [19] (fun iv wr => ∃ k : Nat, k ≤ n ∧ iv = .int .i64 k ∧ Fits l ms k ∧ Below w.heap.size w wr) (fun iv _ => n - (intOf iv).toNat)
  case atStart => exact ⟨0, Nat.zero_le _, rfl, (fun j p m h => absurd h (Nat.not_lt_zero _)), Below.refl _ _⟩
  case round =>
    obtain ⟨k, hk, rfl, hf, hb⟩ := hrel
    have HB := Lib.hid hb; have HF := Lib.hid hf; have hz := hb.size
    clear hb hf
    by_cases hkl : k < n
    · have hki : (k : Int) < (n : Int) := by omega
      have hk0 : (0 : Int) ≤ (k : Int) := by omega
      obtain ⟨b, off, rfl, hlt⟩ := H.out.addr (by rw [regCells_length, HN.out]; omega)
      obtain ⟨b2, off2, rfl⟩ := H2.out.addr (by rw [HN2.out]; omega)
      obtain ⟨⟨x, y⟩, hp⟩ : ∃ p, l[k]? = some p := ⟨l[k]'(by rw [HN.out]; exact hkl), List.getElem?_eq_getElem (by rw [HN.out]; exact hkl)⟩
      obtain ⟨m, hm⟩ : ∃ m, ms[k]? = some m := ⟨_, List.getElem?_eq_getElem (by rw [HN2.out]; exact hkl)⟩
      have hw := regCells_at l k _ hp
      have hr := H.out.below HB.out
      have c0 := hr.cell hw.1; have c1 := hr.cell hw.2
      rw [← Nat.add_assoc] at c1
      simp only at c0 c1
      obtain ⟨Am, cm, cmc, hmc, hmA, hrm⟩ := (H2.out.below HB.out).at hm
      obtain ⟨r, hr'⟩ : ∃ r, m.length = r := ⟨_, rfl⟩
      rw [hr'] at cmc
      have HP := Lib.hid hp; have HM := Lib.hid hm; have HR := Lib.hid hr'
      have e0 : ∀ v : Ext (wr.alloc (.cells #[.int .i64 x, .int .i64 y] 52)).heap.size (wr.alloc (.cells #[.int .i64 x, .int .i64 y] 52)), v.world.cell? ⟨wr.heap.size, 0, none⟩ = some (.int .i64 x) := fun v => (v.cell _ _ (by simp)).trans (blk_cell (blk_new wr _ _) 0)
      have e1 : ∀ v : Ext (wr.alloc (.cells #[.int .i64 x, .int .i64 y] 52)).heap.size (wr.alloc (.cells #[.int .i64 x, .int .i64 y] 52)), v.world.cell? ⟨wr.heap.size, 1, none⟩ = some (.int .i64 y) := fun v => (v.cell _ _ (by simp)).trans (blk_cell (blk_new wr _ _) 1)
      have ltm : b2 < (wr.alloc (.cells #[.int .i64 x, .int .i64 y] 52)).heap.size := Nat.lt_of_lt_of_le (World.block_lt_of_cell? wr _ cmc) (by simp)
      have em : ∀ v : Ext (wr.alloc (.cells #[.int .i64 x, .int .i64 y] 52)).heap.size (wr.alloc (.cells #[.int .i64 x, .int .i64 y] 52)), v.world.cell? ⟨b2, off2 + k, none⟩ = some (.slice Am r cm) := fun v => (v.cell _ _ ltm).trans (Lib.cell?_alloc_marked _ cmc)
      have T := fun W => may x y W
      have LTA := Lib.hid (show wr.heap.size ≤ (wr.alloc (.cells #[.int .i64 x, .int .i64 y] 52)).heap.size by simp)
      clear hw hp hr hm hr' hmc hmA hrm cmc ltm
      cases hmay : mayR x y with
      | false =>
        simp only [hmay] at T
        have HT := Lib.hid T; have HMY := Lib.hid hmay
        clear T hmay
        go_wp2_with fail
        refine region_ext (by kernel_rfl) (by kernel_rfl) ?_
        try simp only [List.append_eq, List.cons_append, List.nil_append]
        repeat (go_big_quiet_step (first | (with_reducible exact calls_ext (Nat.le_refl _) (HT.out _))))
        refine wpQuiet_nil ?_
        intro v
        have D := Lib.hid (HB.out.trans ((((Below.refl wr.heap.size wr).alloc (Nat.le_refl _) (.cells #[.int .i64 x, .int .i64 y] 52)).trans (v.below.mono LTA.out)).mono hz))
        clear e0 e1 em
        go_wp2
        refine ret_tmp2 rfl rfl ⟨D.out, .inl ⟨fun h => ?_, rfl⟩⟩
        have h1 := (h.2 k _ _ (by rw [HN.out]; exact hkl) HP.out HM.out).1
        rw [show mayR (x, y).1 (x, y).2 = mayR x y from rfl, HMY.out] at h1
        cases h1
      | true =>
        simp only [hmay] at T
        have HT := Lib.hid T; have HMY := Lib.hid hmay
        clear T hmay
        by_cases hs : (r : Int) = y
        · go_wp2_with fail
          refine region_ext (by kernel_rfl) (by kernel_rfl) ?_
          try simp only [List.append_eq, List.cons_append, List.nil_append]
          repeat (go_big_quiet_step (first | (with_reducible exact calls_ext (Nat.le_refl _) (HT.out _))))
          refine wpQuiet_nil ?_
          intro v
          have D := Lib.hid (HB.out.trans ((((Below.refl wr.heap.size wr).alloc (Nat.le_refl _) (.cells #[.int .i64 x, .int .i64 y] 52)).trans (v.below.mono LTA.out)).mono hz))
          clear e0 e1 em
          have HF2 := Lib.hid (Fits.next HF.out HP.out HM.out HMY.out (by rw [HR.out]; exact hs))
          go_wp2
          go_roundw
          case rel => exact ⟨k + 1, by omega, by go_num, HF2.out, D.out⟩
          case measure => simp [intOf]; omega
        · go_wp2_with fail
          refine region_ext (by kernel_rfl) (by kernel_rfl) ?_
          try simp only [List.append_eq, List.cons_append, List.nil_append]
          repeat (go_big_quiet_step (first | (with_reducible exact calls_ext (Nat.le_refl _) (HT.out _))))
          refine wpQuiet_nil ?_
          intro v
          have D := Lib.hid (HB.out.trans ((((Below.refl wr.heap.size wr).alloc (Nat.le_refl _) (.cells #[.int .i64 x, .int .i64 y] 52)).trans (v.below.mono LTA.out)).mono hz))
          clear e0 e1 em
          go_wp2
          refine ret_tmp2 rfl rfl ⟨D.out, .inl ⟨fun h => ?_, rfl⟩⟩
          have h1 := (h.2 k _ _ (by rw [HN.out]; exact hkl) HP.out HM.out).2
          rw [HR.out] at h1
          exact hs h1
    · have hki : ¬ (k : Int) < (n : Int) := by omega
      have hf := HF.out
      rw [show k = n by omega] at hf
      have HFN := Lib.hid (show Fits l ms l.length by rw [HN.out]; exact hf)
      have HLL := Lib.hid (show l.length = ms.length by rw [HN.out, HN2.out])
      clear hf
      go_wp2_with fail
      refine (HTA.out _ (H.out.below HB.out)).mono ?_
      rintro e w1 ⟨rfl, b1⟩
      have D1 := Lib.hid (HB.out.trans (b1.mono hz))
      clear b1
      rcases allE_may (HFN.out.all HLL.out) with he | he
      rotate_left
      · rw [he]
        have HE := Lib.hid he
        clear he
        go_wp2_with fail
        exact ret_tmp2 rfl rfl ⟨D1.out, .inr (.inl ⟨HLL.out, HFN.out, HE.out, rfl⟩)⟩
      · rw [he]
        have HE := Lib.hid he
        clear he
        have hm := run_made4096 w1
        have G0 := Lib.hid (show (w1.alloc (.cells (bcs (zs 4096)).toArray 5)).heap[w1.heap.size]? = some (.cells (bcs (laid l ms 0)).toArray 5 (0, 0)) from blk_new w1 _ _)
        have D2 := Lib.hid (D1.out.alloc D1.out.size (.cells (bcs (zs 4096)).toArray 5))
        have z1 := D1.out.size
        obtain ⟨Z, hZ⟩ : ∃ Z, (bcs (zs 4096)).toArray = Z := ⟨_, rfl⟩
        rw [hZ] at hm G0 D2
        clear hZ
        go_wp2_with fail
        clear hm hki hk hkl HB HF hz
        generalize (w1.alloc (.cells Z 5)) = w2 at *
        go_loopw [46] (fun iv wr => ∃ k : Nat, k ≤ n ∧ iv = .int .i64 k ∧ wr.heap[w1.heap.size]? = some (.cells (bcs (laid l ms k)).toArray 5 (0, 0)) ∧ Below w.heap.size w wr) (fun iv _ => n - (intOf iv).toNat)
        case atStart => exact ⟨0, Nat.zero_le _, rfl, G0.out, D2.out⟩
        case round =>
          obtain ⟨k, hk, rfl, hg, hb⟩ := hrel
          have HB := Lib.hid hb; have HG := Lib.hid hg; have hz := hb.size
          clear hb hg
          by_cases hkl : k < n
          · have hki : (k : Int) < (n : Int) := by omega
            have hk0 : (0 : Int) ≤ (k : Int) := by omega
            obtain ⟨b, off, rfl, hlt⟩ := H.out.addr (by rw [regCells_length, HN.out]; omega)
            obtain ⟨b2, off2, rfl⟩ := H2.out.addr (by rw [HN2.out]; omega)
            obtain ⟨⟨x, y⟩, hp⟩ : ∃ p, l[k]? = some p := ⟨l[k]'(by rw [HN.out]; exact hkl), List.getElem?_eq_getElem (by rw [HN.out]; exact hkl)⟩
            obtain ⟨m, hm⟩ : ∃ m, ms[k]? = some m := ⟨_, List.getElem?_eq_getElem (by rw [HN2.out]; exact hkl)⟩
            obtain ⟨f1, f2⟩ := HFN.out k _ _ (by rw [HN.out]; exact hkl) hp hm
            have f3 := mayR_iff.1 f1
            simp only at f2 f3
            obtain ⟨xb, rfl⟩ : ∃ xb : Nat, x = (xb : Int) := ⟨x.toNat, by omega⟩
            have hw := regCells_at l k _ hp
            have hr := H.out.below HB.out
            have c0 := hr.cell hw.1; have c1 := hr.cell hw.2
            rw [← Nat.add_assoc] at c1
            simp only at c0 c1
            obtain ⟨Am, cm, cmc, hmc, hmA, hrm⟩ := (H2.out.below HB.out).at hm
            obtain ⟨r, hr'⟩ : ∃ r, m.length = r := ⟨_, rfl⟩
            rw [hr'] at cmc f2
            have hxr : xb + r ≤ 4096 := by omega
            have hr16 : 16 ≤ r := by omega
            have hxi : (0 : Int) ≤ (xb : Int) := by omega
            have hxi2 : (xb : Int) ≤ 4096 := by omega
            have hx96 : ¬ 4096 - xb = 0 := by omega
            have HLN := Lib.hid (show (bcs m).length = r by rw [bcs_length, hr'])
            have HLL4 := Lib.hid (show (bcs (laid l ms k)).length = 4096 by rw [bcs_length, laid_length HLL.out HFN.out k (by rw [HN.out]; omega)])
            have HNX := Lib.hid (show splice (bcs (laid l ms k)) xb (bcs m) = bcs (laid l ms (k + 1)) by
              rw [← bcs_splice]
              show _ = bcs (splice (laid l ms k) (l[k]?.getD (0, 0)).1.toNat (ms[k]?.getD []))
              rw [hp, hm]
              rfl)
            obtain ⟨b3, o3, rfl, _, hrc⟩ : ∃ b3 o3, Am = some ⟨b3, o3, none⟩ ∧ b3 < wr.heap.size ∧ ∀ (j : Nat) (u : Value), (bcs m)[j]? = some u → wr.cell? ⟨b3, o3 + j, none⟩ = some u := by
              rcases hrm with e | ⟨b3, o3, e, h3, h4⟩
              · exfalso; have := HLN.out; rw [e] at this; simp at this; omega
              · exact ⟨b3, o3, e, h3, h4⟩
            have HRC := Lib.hid (show ∀ (j : Nat) (u : Value), (bcs m)[j]? = some u → (wr.alloc (.cells #[.int .i64 (xb : Int), .int .i64 y] 52)).drew.cell? (Addr.add ⟨b3, o3, none⟩ j) = some u from fun j u hu => by
              rw [Addr.add_lit]; exact Lib.cell?_alloc_marked _ (hrc j u hu))
            have HGD := Lib.hid (show (wr.alloc (.cells #[.int .i64 (xb : Int), .int .i64 y] 52)).drew.heap[w1.heap.size]? = some (.cells (bcs (laid l ms k)).toArray 5 (0, 0)) from blk_alloc HG.out _)
            have HBD := Lib.hid ((HB.out.alloc hz (.cells #[.int .i64 (xb : Int), .int .i64 y] 52)).drew)
            have cm1 : ∀ o, (wr.alloc o).cell? ⟨b2, off2 + k, none⟩ = some (.slice (some ⟨b3, o3, none⟩) r cm) := fun o => Lib.cell?_alloc_marked o cmc
            clear hw hp hr hm hr' hmc hmA hrm hrc f1 f3
            go_wp2_with fail
            go_region_law ((refine step_copy_splice rfl (.tmp 54) (.tmp 58) 22 22 rfl 5 Try.underlying22 (by kernel_rfl) _ _ _ _ _ _ rfl rfl w1.heap.size xb (bcs (laid l ms k)) 5 HGD.out (bcs m) (by rw [HLN.out]; exact (Nat.min_eq_left (by omega)).symm) (fun _ => ⟨if_neg (by omega), _, rfl, HRC.out⟩) (by rw [HLN.out, HLL4.out]; omega) (bcs_one _) w.heap.size w HBD.out z1 ?_; intro w5 hg5 hb5; have HG5 := Lib.hid hg5.out; have HB5 := Lib.hid hb5; clear hg5 hb5))
            all_goals (go_wp2_with fail; go_roundw)
            all_goals first
              | (simp [intOf]; omega)
              | exact ⟨k + 1, by omega, by go_num, by rw [← HNX.out]; exact HG5.out, HB5.out⟩
          · have hki : ¬ (k : Int) < (n : Int) := by omega
            have hkn : k = n := by omega
            have HG2 := Lib.hid (show wr.heap[w1.heap.size]? = some (.cells (bcs (laid l ms l.length)).toArray 5 (0, 0)) by rw [HN.out, ← hkn]; exact HG.out)
            clear hkn
            go_wp2
            exact ret_tmp2 rfl rfl ⟨HB.out, .inr (.inr ⟨HLL.out, HFN.out, HE.out, w1.heap.size, rfl, z1, HG2.out⟩)⟩
end Go.Proofs.Ytjliaojanmbicaa.phys
