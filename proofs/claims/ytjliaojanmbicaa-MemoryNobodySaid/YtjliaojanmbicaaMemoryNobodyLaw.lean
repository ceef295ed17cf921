/- The law MemoryNobody: each byte of physical memory is its region's; one that is nobody's is 0; no condition. -/
import Derived.Test.YtjliaojanmbicaaRows
import Derived.Test.YtjliaojanmbicaaMemS
import Derived.Test.YtjliaojanmbicaaMemF
import Derived.Test.YtjliaojanmbicaaMemG
import Derived.Test.YtjliaojanmbicaaRegP2
namespace Go.Proofs.Ytjliaojanmbicaa.phys
open Go Go.ChangeShapes Go.WideShapes Go.ChangeAt Go.RowKit Go.Proofs.Ytjliaojanmbicaa.rows Go.Proofs.Ytjliaojanmbicaa.reg
theorem nob1 (A A2 : Option Addr) (n c n2 c2 : Nat) (h0 : (20 : Int) < (n : Int)) (w : World) : Calls Try.prog 8 #[.slice A n c, .slice A2 n2 c2] w fun e w' => e = .returned (.bool true) ∧ Below w.heap.size w w' := by
  have HTW := Lib.hid mem.awake
  go_enter Try.func8, Try.ntmps8
  go_wp2_with fail
  refine (HTW.out _).mono ?_
  rintro e w2 ⟨rfl, b2⟩
  have D2 := Lib.hid b2
  clear b2
  go_wp2
  go_ret
  exact ⟨rfl, D2.out⟩
theorem nob2 (A A2 : Option Addr) (n c n2 c2 : Nat) (h0 : (n : Int) ≤ 20) (h1 : (n2 : Int) < (n : Int)) (w : World) : Calls Try.prog 8 #[.slice A n c, .slice A2 n2 c2] w fun e w' => e = .returned (.bool true) ∧ Below w.heap.size w w' := by
  have HTW := Lib.hid mem.awake
  go_enter Try.func8, Try.ntmps8
  go_wp2_with fail
  refine (HTW.out _).mono ?_
  rintro e w2 ⟨rfl, b2⟩
  have D2 := Lib.hid b2
  clear b2
  go_wp2
  go_ret
  exact ⟨rfl, D2.out⟩
theorem nob3 (l : List Reg) (A A2 : Option Addr) (n c n2 c2 : Nat) (hn : l.length = n) (hc : n ≤ c) (h0 : (n : Int) ≤ 20) (h1 : (n : Int) ≤ (n2 : Int)) (h2 : allE l = 2 ∨ allE l = 121) (w : World) (h : Rd w A (regCells l)) : Calls Try.prog 8 #[.slice A n c, .slice A2 n2 c2] w fun e w' => e = .returned (.bool true) ∧ Below w.heap.size w w' := by
  have HTW := Lib.hid mem.awake
  have T := all_any l A c (by rw [hn]; exact hc) (by omega) w h
  rw [hn] at T
  obtain ⟨z, hz⟩ : ∃ z, allE l = z := ⟨_, rfl⟩
  rw [hz] at T h2
  have HT := Lib.hid T
  clear T h hn hz
  rcases h2 with rfl | rfl
  · go_enter Try.func8, Try.ntmps8
    go_wp2_with fail
    refine HT.out.mono ?_
    rintro e w1 ⟨rfl, b1⟩
    have B1 := Lib.hid b1; clear b1
    go_wp2_with fail
    refine (HTW.out _).mono ?_
    rintro e w2 ⟨rfl, b2⟩
    have D2 := Lib.hid (B1.out.trans (b2.mono B1.out.size)); clear b2
    go_wp2
    go_ret
    exact ⟨rfl, D2.out⟩
  · go_enter Try.func8, Try.ntmps8
    go_wp2_with fail
    refine HT.out.mono ?_
    rintro e w1 ⟨rfl, b1⟩
    have B1 := Lib.hid b1; clear b1
    go_wp2_with fail
    refine (HTW.out _).mono ?_
    rintro e w2 ⟨rfl, b2⟩
    have D2 := Lib.hid (B1.out.trans (b2.mono B1.out.size)); clear b2
    go_wp2
    go_ret
    exact ⟨rfl, D2.out⟩
/-- A region's memory: bytes that count up from one. -/
def memB (b : UInt8) (s : Nat) : Msg := (List.range s).map fun k => b + UInt8.ofNat k
theorem memB_length (b : UInt8) (s : Nat) : (memB b s).length = s := by simp [memB]
theorem memB_at (b : UInt8) {s k : Nat} (h : k < s) : (memB b s)[k]? = some (b + UInt8.ofNat k) := by simp [memB, h]
/-- The first k regions' memories. -/
def memsOf (l : List Reg) (bs : List UInt8) : Nat → List Msg
  | 0 => []
  | k + 1 => memsOf l bs k ++ [memB (bs[k]?.getD 0) (l[k]?.getD (0, 0)).2.toNat]
theorem memsOf_length (l : List Reg) (bs : List UInt8) : ∀ k, (memsOf l bs k).length = k
  | 0 => rfl
  | k + 1 => by simp [memsOf, memsOf_length l bs k]
theorem memsOf_at (l : List Reg) (bs : List UInt8) : ∀ {k i : Nat}, i < k → (memsOf l bs k)[i]? = some (memB (bs[i]?.getD 0) (l[i]?.getD (0, 0)).2.toNat)
  | 0, _, h => absurd h (Nat.not_lt_zero _)
  | k + 1, i, h => by
    unfold memsOf
    by_cases hi : i < k
    · rw [List.getElem?_append_left (by rw [memsOf_length]; exact hi)]; exact memsOf_at l bs hi
    · obtain rfl : i = k := by omega
      rw [List.getElem?_append_right (by rw [memsOf_length]; exact Nat.le_refl _), memsOf_length, Nat.sub_self]
      rfl
theorem memsOf_fits {l : List Reg} (bs : List UInt8) (h : l.all mayP = true) : Fits l (memsOf l bs l.length) l.length := fun j p m hj hp hm => by
  have h1 : mayR p.1 p.2 = true := List.all_eq_true.1 h p (List.mem_of_getElem? hp)
  rw [memsOf_at l bs hj, hp] at hm
  injection hm with hm
  subst hm
  have := mayR_iff.1 h1
  exact ⟨h1, by simp [memB_length]; omega⟩
theorem laid_none {l : List Reg} {ms : List Msg} (hl : l.length = ms.length) (hf : Fits l ms l.length) (x : Nat) (hx : x < 4096) : ∀ k, k ≤ l.length → (∀ i p, i < k → l[i]? = some p → hasR p.1 p.2 (x : Int) = false) → (laid l ms k)[x]? = some 0
  | 0, _, _ => by
    show (zs 4096)[x]? = some 0
    unfold zs
    rw [List.getElem?_replicate, if_pos hx]
  | k + 1, hk, hh => by
    have ih := laid_none hl hf x hx k (by omega) (fun i p hi hp => hh i p (by omega) hp)
    obtain ⟨p, hp⟩ : ∃ p, l[k]? = some p := ⟨_, List.getElem?_eq_getElem (by omega)⟩
    obtain ⟨m, hm⟩ : ∃ m, ms[k]? = some m := ⟨_, List.getElem?_eq_getElem (by omega)⟩
    obtain ⟨f1, f2⟩ := hf k p m (by omega) hp hm
    have f3 := mayR_iff.1 f1
    have h1 := hh k p (by omega) hp
    unfold hasR at h1
    rw [f1] at h1
    simp only [Bool.true_and, decide_eq_false_iff_not] at h1
    unfold laid
    rw [hp, hm]
    simp only [Option.getD_some]
    rw [splice_at _ _ _ _ (by rw [laid_length hl hf k (by omega)]; omega)]
    split
    · exact ih
    · rw [if_neg (by omega)]; exact ih
theorem laid_some {l : List Reg} {ms : List Msg} (hl : l.length = ms.length) (hf : Fits l ms l.length) (x : Nat) (i : Nat) (q : Reg) (m : Msg) (hq : l[i]? = some q) (hm : ms[i]? = some m) (hx : hasR q.1 q.2 (x : Int) = true) (ho : ∀ j p, j ≠ i → l[j]? = some p → hasR p.1 p.2 (x : Int) = false) : ∀ k, k ≤ l.length → i < k → (laid l ms k)[x]? = m[x - q.1.toNat]?
  | 0, _, h => absurd h (Nat.not_lt_zero _)
  | k + 1, hk, hik => by
    obtain ⟨p, hp⟩ : ∃ p, l[k]? = some p := ⟨_, List.getElem?_eq_getElem (by omega)⟩
    obtain ⟨m', hm'⟩ : ∃ m, ms[k]? = some m := ⟨_, List.getElem?_eq_getElem (by omega)⟩
    obtain ⟨f1, f2⟩ := hf k p m' (by omega) hp hm'
    have f3 := mayR_iff.1 f1
    unfold laid
    rw [hp, hm']
    simp only [Option.getD_some]
    rw [splice_at _ _ _ _ (by rw [laid_length hl hf k (by omega)]; omega)]
    by_cases hki : k = i
    · subst hki
      rw [hp] at hq; rw [hm'] at hm
      injection hq with hq; injection hm with hm
      subst hq; subst hm
      unfold hasR at hx
      rw [f1] at hx
      simp only [Bool.true_and, decide_eq_true_eq] at hx
      rw [if_neg (by omega), if_pos (by omega)]
    · have ih := laid_some hl hf x i q m hq hm hx ho k (by omega) (by omega)
      have h1 := ho k p hki hp
      unfold hasR at h1
      rw [f1] at h1
      simp only [Bool.true_and, decide_eq_false_iff_not] at h1
      split
      · exact ih
      · rw [if_neg (by omega)]; exact ih
/-- A byte of physical memory. -/
theorem nobody_at {l : List Reg} (bs : List UInt8) (h : allE l = 0) (x : Nat) (hx : x < 4096) :
    (holderR l (x : Int) = -1 ∧ (laid l (memsOf l bs l.length) l.length)[x]? = some 0) ∨
      ∃ (i : Nat) (q : Reg), holderR l (x : Int) = (i : Int) ∧ i < l.length ∧ l[i]? = some q ∧ 0 ≤ q.1 ∧ q.1 ≤ (x : Int) ∧ (laid l (memsOf l bs l.length) l.length)[x]? = some (bs[i]?.getD 0 + UInt8.ofNat (x - q.1.toNat)) := by
  have hall := (good_of h).1
  have hl := (memsOf_length l bs l.length).symm
  have hf := memsOf_fits bs hall
  rcases firstI_spec (fun p : Reg => hasR p.1 p.2 (x : Int)) l with ⟨e, h1⟩ | ⟨i, q, e, hq, h1, _⟩
  · exact .inl ⟨e, laid_none hl hf x hx _ (Nat.le_refl _) fun j p _ hp => h1 p (List.mem_of_getElem? hp)⟩
  · refine .inr ⟨i, q, e, (List.getElem?_eq_some_iff.1 hq).1, hq, ?_⟩
    have hm := mayR_iff.1 (may_of h (List.mem_of_getElem? hq))
    have hx2 := h1
    unfold hasR at hx2
    simp only [Bool.and_eq_true, decide_eq_true_eq] at hx2
    have hi := (List.getElem?_eq_some_iff.1 hq).1
    refine ⟨hm.1, hx2.2.1, ?_⟩
    rw [laid_some hl hf x i q _ hq (memsOf_at l bs hi) h1 (fun j p hj hp => ?_) l.length (Nat.le_refl _) hi, hq]
    · simp only [Option.getD_some]
      exact memB_at _ (by omega)
    · rw [holder_has h _ hp]
      show ((j : Int) == firstI (fun p : Reg => hasR p.1 p.2 (x : Int)) l) = false
      rw [e]
      simp
      omega
theorem u8_sum (b : UInt8) (k : Nat) : ((b + UInt8.ofNat k).toNat : Int) = ((b.toNat : Int) + (k : Int)) % 256 := by
  simp [UInt8.toNat_add]
set_option maxRecDepth 100000 in
set_option maxHeartbeats 4000000 in
theorem nob_main (l : List Reg) (bs : List UInt8) (A A2 : Option Addr) (n c n2 c2 : Nat) (hn : l.length = n) (hnc : n ≤ c) (hn2 : bs.length = n2) (h0 : (n : Int) ≤ 20) (h1 : (n : Int) ≤ (n2 : Int)) (he : allE l = 0) (w : World) (h : Rd w A (regCells l)) (h2 : Rd w A2 (bcs bs)) : Calls Try.prog 8 #[.slice A n c, .slice A2 n2 c2] w fun e w' => e = .returned (.bool true) ∧ Below w.heap.size w w' := by
  obtain ⟨i0, hi, hz0, hz1, hz2⟩ := info_parts info_row
  have h1d : decide (n2 < n) = false := by simp; omega
  have h1e : decide ((n2 : Int) < (n : Int)) = false := by simp; omega
  have HTW := Lib.hid mem.awake
  have TA := all_any l A c (by rw [hn]; exact hnc) (by omega) w h
  have TP := fun (qs : List Msg) (A5 : Option Addr) (c5 : Nat) (hq : qs.length = n) (W : World) (g1 : Rd W A (regCells l)) (g2 : Rms W A5 qs) => (phys l qs A A5 n c c5 hn hnc n hq (by omega) (by omega) W g1 g2).mono fun e w' h => POut.any h
  have TO := fun (x : Int) (W : World) (g1 : Rd W A (regCells l)) => holder l A c x (by omega) W g1
  rw [hn, he] at TA
  rw [hn] at TO
  have HTA := Lib.hid TA; have HTP := Lib.hid TP; have HTO := Lib.hid TO
  have H := Lib.hid h; have H2 := Lib.hid h2; have HN := Lib.hid hn; have HN2 := Lib.hid hn2; have HE := Lib.hid he
  clear TA TP TO h h2 hn hn2 he
  go_enter Try.func8, Try.ntmps8
  go_wp2_with fail
  refine HTA.out.mono ?_
  rintro e w1 ⟨rfl, b1⟩
  have B1 := Lib.hid b1
  clear b1
  go_wp2_with fail
  go_loopw [5, 6] (fun v iv wr => ∃ k : Nat, k ≤ n ∧ iv = .int .i64 k ∧ Grow w.heap.size wr v (memsOf l bs k) ∧ Below w.heap.size w wr) (fun _ iv _ => n - (intOf iv).toNat)
  case atStart => exact ⟨0, Nat.zero_le _, rfl, Grow.nil _ _, B1.out⟩
  case round =>
    obtain ⟨k, hk, rfl, hg, hb⟩ := hrel
    obtain ⟨A5, c5, rfl, hc5, _, _, ho5⟩ := hg.form
    have HO5 := Lib.hid ho5.rows
    have HQL := Lib.hid (memsOf_length l bs k)
    rw [memsOf_length] at hg ⊢
    have HB := Lib.hid hb; have HG := Lib.hid hg; have hz := hb.size
    clear hb hg ho5 hc5
    by_cases hkl : k < n
    · have hki : (k : Int) < (n : Int) := by omega
      have hk0 : (0 : Int) ≤ (k : Int) := by omega
      obtain ⟨b, off, rfl, _⟩ := H.out.addr (by rw [regCells_length, HN.out]; omega)
      obtain ⟨b2, off2, rfl, _⟩ := H2.out.addr (by rw [bcs_length, HN2.out]; omega)
      obtain ⟨⟨x, y⟩, hp⟩ : ∃ p, l[k]? = some p := ⟨l[k]'(by rw [HN.out]; exact hkl), List.getElem?_eq_getElem (by rw [HN.out]; exact hkl)⟩
      obtain ⟨z, hz'⟩ : ∃ z, bs[k]? = some z := ⟨_, List.getElem?_eq_getElem (by rw [HN2.out]; omega)⟩
      have hmay := mayR_iff.1 (may_of HE.out (List.mem_of_getElem? hp))
      simp only at hmay
      obtain ⟨s, rfl⟩ : ∃ s : Nat, y = (s : Int) := ⟨y.toNat, by omega⟩
      have hs5 : s ≤ 512 := by omega
      have hs5i : (s : Int) ≤ 512 := by omega
      have hs0i : (0 : Int) ≤ (s : Int) := by omega
      have c1w := H.out.cell (regCells_at l k _ hp).2
      rw [← Nat.add_assoc] at c1w
      simp only at c1w
      have cbw := H2.out.cell (bcs_at hz')
      have L1 := Lib.hid (World.block_lt_of_cell? w _ c1w); have L2 := Lib.hid (World.block_lt_of_cell? w _ cbw)
      have HC1 := Lib.hid c1w; have HCB := Lib.hid cbw
      have c1 := (HB.out.cell (p := ⟨b, off + k * 2 + 1, none⟩) L1.out).trans c1w
      have HMS := Lib.hid (show memsOf l bs (k + 1) = memsOf l bs k ++ [memB z s] by
        show memsOf l bs k ++ [memB (bs[k]?.getD 0) (l[k]?.getD (0, 0)).2.toNat] = _
        rw [hp, hz']
        simp)
      have hm := run_made s (by omega) wr
      have G0 := Lib.hid (blk_new wr (bcs (zs s)).toArray 5)
      have BA := Lib.hid ((Below.refl wr.heap.size wr).alloc (Nat.le_refl _) (.cells (bcs (zs s)).toArray 5))
      obtain ⟨Z, hZ⟩ : ∃ Z, (bcs (zs s)).toArray = Z := ⟨_, rfl⟩
      rw [hZ] at hm G0 BA
      have HZZ := Lib.hid hZ
      clear hp hz' hmay c1w cbw hZ
      go_wp2_with fail
      clear hm
      generalize (wr.alloc (.cells Z 5)) = w3 at *
      obtain ⟨w9, hw9⟩ : ∃ w9 : World, w9 = wr := ⟨_, rfl⟩
      rw [← hw9] at HB HG HO5 hz c1 G0 BA ⊢
      clear hw9
      go_loopw [8] (fun jv wi => ∃ j : Nat, j ≤ s ∧ jv = .int .i64 j ∧ wi.heap[w9.heap.size]? = some (.cells (bcs (splice (zs s) 0 ((memB z s).take j))).toArray 5 (0, 0)) ∧ Below w9.heap.size w9 wi) (fun jv _ => s - (intOf jv).toNat)
      case atStart => exact ⟨0, Nat.zero_le _, rfl, by rw [List.take_zero, splice_nil, HZZ.out]; exact G0.out, BA.out⟩
      case round =>
        obtain ⟨j, hj, rfl, hg, hb⟩ := hrel
        have GI := Lib.hid hg; have BI := Lib.hid hb
        have hj0 : (0 : Int) ≤ (j : Int) := by omega
        clear hg hb
        by_cases hjs : j < s
        · have hji : (j : Int) < (s : Int) := by omega
          have BW := HB.out.trans (BI.out.mono hz)
          have cb := (BW.cell (p := ⟨b2, off2 + k, none⟩) L2.out).trans HCB.out
          have hkn2 : (k : Int) < (n2 : Int) := by omega
          have hjl : j < (splice (zs s) 0 ((memB z s).take j)).length := by
            rw [length_splice _ _ _ (by rw [zs_length, List.length_take, memB_length]; omega), zs_length]; exact hjs
          obtain ⟨u0, g0⟩ : ∃ u, wr.cell? ⟨w9.heap.size, j, none⟩ = some u := by
            rw [blk_cell GI.out]
            exact ⟨_, by rw [List.getElem?_toArray]; exact List.getElem?_eq_getElem (by rw [bcs_length]; exact hjl)⟩
          have gf := blk_frozen GI.out j
          have HSN := Lib.hid (show (splice (zs s) 0 ((memB z s).take j)).set j (z + UInt8.ofNat j) = splice (zs s) 0 ((memB z s).take (j + 1)) by
            have h := splice_next (zs s) (memB z s) 0 j (z + UInt8.ofNat j) (by rw [memB_length, zs_length]; omega) (memB_at z hjs)
            rwa [Nat.zero_add] at h)
          clear hjl BW
          go_wp2_with fail
          go_roundw
          case rel =>
            refine ⟨j + 1, by omega, by go_num, ?_, BI.out.setCell (p := ⟨w9.heap.size, j, none⟩) (Nat.le_refl _) _⟩
            rw [blk_set GI.out j _, ← HSN.out, ← bcs_set, u8_sum]
          case measure => simp [intOf]; omega
        · have hji : ¬ (j : Int) < (s : Int) := by omega
          have HMSG := Lib.hid (show MsgAt w9.heap.size wr.heap.size wr (.slice (some ⟨w9.heap.size, 0, none⟩) s s) (memB z s) by
            have e : splice (zs s) 0 ((memB z s).take j) = memB z s := by
              rw [List.take_of_length_le (by rw [memB_length]; omega)]
              unfold splice
              simp [memB_length, zs]
            have g := GI.out
            rw [e] at g
            refine ⟨_, s, by rw [memB_length], by rw [memB_length]; exact Nat.le_refl _, (fun h => by cases h), .inl ⟨_, rfl⟩, .inr ⟨w9.heap.size, 0, _, rfl, Nat.le_refl _, blk_lt g, g, fun j u hu => ?_⟩⟩
            rw [Nat.zero_add]
            simpa using hu)
          have hgw := HG.out.below BI.out
          obtain ⟨vs, hown, hvl, hms⟩ := hgw.own
          rw [HQL.out] at hown hvl
          have HOWN := Lib.hid hown; have HVL := Lib.hid hvl; have HMS2 := Lib.hid hms
          have hsz := Nat.le_trans hz BI.out.size
          clear hgw hown hvl hms
          go_wp2_with (at_builtin; refine wpList_append_rd _ rfl (.tmp 71) (.tmp 73) 49 rfl w.heap.size 22 i0 (.slice none 0 0) 1 24 Try.underlying49 hi hz0 hz1 hz2 rfl (by decide) _ k vs rfl (HOWN.out.alloc _) _ 1 _ [.slice (some ⟨w9.heap.size, 0, none⟩) s s] rfl rfl (Rd.new _ _ _) ?d2 ?d3 ?d4 ?d5 ?_)
          case d2 => first | rfl | (intro u hu; simp at hu; subst hu; rfl)
          case d3 => unfold maxLen; omega
          case d4 => omega
          case d5 => first | omega | (simp; omega)
          intro v5 w5 hown5 hg5
          have hb5 := below_own ((HB.out.trans (BI.out.mono hz)).alloc hsz (.cells #[.slice (some ⟨w9.heap.size, 0, none⟩) s s] 22)) (HOWN.out.alloc _) hg5 (by simp; omega)
          have HG5 := Lib.hid (show Grow w.heap.size w5 v5 (memsOf l bs (k + 1)) from by
            rw [HMS.out]
            have hBA := (Below.refl wr.heap.size wr).alloc (Nat.le_refl _) (.cells #[.slice (some ⟨w9.heap.size, 0, none⟩) s s] 22)
            refine Grow.snoc (vs := vs) (by rw [HQL.out]; exact HOWN.out.alloc _) (by rw [HQL.out]; exact HVL.out) (fun j x hx => ?_) ((HMSG.out.below hBA (Nat.le_refl _)).mono hz hBA.size) (by rw [HQL.out]; exact hown5) hg5
            obtain ⟨u, e1, e2⟩ := HMS2.out j x hx
            exact ⟨u, e1, (e2.below hBA (Nat.le_refl _)).mono (Nat.le_refl _) hBA.size⟩)
          have HB5 := Lib.hid hb5
          clear hown5 hg5 hb5
          go_wp2_with fail
          go_roundw
          case rel => exact ⟨k + 1, by omega, by go_num, HG5.out, HB5.out⟩
          case measure => simp [intOf]; omega
    · have hki : ¬ (k : Int) < (n : Int) := by omega
      obtain rfl : k = n := by omega
      go_wp2_with fail
      refine (HTP.out (memsOf l bs k) A5 c5 HQL.out wr (H.out.below HB.out) HO5.out).mono ?_
      rintro e w3 ⟨Ag, cg, ps, E, rfl, hph, hrd, b3⟩
      have hll := memsOf_length l bs l.length
      have hff := memsOf_fits bs (good_of HE.out).1
      have hpe : ps = laid l (memsOf l bs l.length) l.length ∧ E = 0 := by
        rw [← HN.out] at hph
        rcases hph with ⟨a, _, _⟩ | ⟨_, a, _, _⟩ | ⟨_, _, rfl, rfl⟩
        · exact absurd ⟨hll.symm, hff⟩ a
        · rw [HE.out] at a; cases a
        · exact ⟨rfl, rfl⟩
      obtain ⟨hps, rfl⟩ := hpe
      have hpl : ps.length = 4096 := by rw [hps]; exact laid_length hll.symm hff _ (Nat.le_refl _)
      rw [hpl]
      have D3 := Lib.hid (HB.out.trans (b3.mono hz)); have z3 := D3.out.size
      have RD3 := Lib.hid hrd; have HPS := Lib.hid hps; have HPL := Lib.hid hpl
      clear b3 hrd hps hpl hph hll hff
      go_wp2_with fail
      obtain ⟨w9, hw9⟩ : ∃ w9 : World, w9 = w3 := ⟨_, rfl⟩
      rw [← hw9] at D3 RD3 z3 ⊢
      clear hw9 HB hz HG HO5
      go_loopw [11] (fun iv wr => ∃ x : Nat, x ≤ 4096 ∧ iv = .int .i64 x ∧ Below w9.heap.size w9 wr) (fun iv _ => 4096 - (intOf iv).toNat)
      case atStart => exact ⟨0, Nat.zero_le _, rfl, Below.refl _ _⟩
      case round =>
        obtain ⟨x, hx, rfl, hb⟩ := hrel
        have HB := Lib.hid (D3.out.trans (hb.mono z3)); have HB9 := Lib.hid hb; have hz := hb.size
        clear hb
        by_cases hx4 : x < 4096
        · have hxi : (x : Int) < 4096 := by omega
          have hx0 : (0 : Int) ≤ (x : Int) := by omega
          obtain ⟨gp, op, rfl, _⟩ := RD3.out.addr (by rw [bcs_length, HPL.out]; omega)
          go_wp2_with fail
          refine (HTO.out (x : Int) _ (H.out.below HB.out)).mono ?_
          rintro e w4 ⟨rfl, b4⟩
          have B4 := Lib.hid (HB9.out.trans (b4.mono hz)); have D4 := Lib.hid (D3.out.trans (B4.out.mono z3))
          have z4 := B4.out.size
          clear b4
          rcases nobody_at bs HE.out x hx4 with ⟨e, hv⟩ | ⟨i, q, e, hi', hq, hq0, hqx, hv⟩
          · rw [e]
            rw [← HPS.out] at hv
            have cp := (RD3.out.below B4.out).cell (bcs_at hv)
            have xp : ∀ v : Ext w4.heap.size w4, v.world.cell? ⟨gp, op + x, none⟩ = some (.int .u8 0) := fun v => (v.cell _ _ (World.block_lt_of_cell? w4 _ cp)).trans cp
            have hgd : decide ((k : Int) ≤ -1) = false := by simp; omega
            clear e hv cp
            go_wp2_with fail
            refine region_ext (by kernel_rfl) (by kernel_rfl) ?_
            try simp only [List.append_eq, List.cons_append, List.nil_append]
            repeat (go_big_quiet_step (fail))
            refine wpQuiet_nil ?_
            intro v
            have B5 := Lib.hid (B4.out.trans (v.below.mono z4))
            clear xp
            go_wp2
            go_roundw
            case rel => exact ⟨x + 1, by omega, by go_num, B5.out⟩
            case measure => simp [intOf]; omega
          · rw [e]
            rw [← HPS.out] at hv
            obtain ⟨z, hz'⟩ : ∃ z, bs[i]? = some z := ⟨bs[i]'(by rw [HN2.out]; rw [HN.out] at hi'; omega), List.getElem?_eq_getElem (by rw [HN2.out]; rw [HN.out] at hi'; omega)⟩
            rw [hz'] at hv
            obtain ⟨⟨qb, qs⟩, rfl⟩ : ∃ q' : Nat × Int, q = ((q'.1 : Int), q'.2) := ⟨(q.1.toNat, q.2), Prod.ext (by show q.1 = ((q.1.toNat : Nat) : Int); omega) rfl⟩
            simp only at hq0 hqx hv
            have hin : (i : Int) < (k : Int) := by rw [HN.out] at hi'; omega
            have hin2 : (i : Int) < (n2 : Int) := by omega
            have hi0 : (0 : Int) ≤ (i : Int) := by omega
            obtain ⟨b, off, rfl, _⟩ := H.out.addr (by rw [regCells_length]; omega)
            obtain ⟨b2, off2, rfl, _⟩ := H2.out.addr (by rw [bcs_length, HN2.out]; omega)
            have cp := (RD3.out.below B4.out).cell (bcs_at hv)
            have cb := (H2.out.below D4.out).cell (bcs_at hz')
            have c0 := (H.out.below D4.out).cell (regCells_at l i _ hq).1
            simp only [Option.getD_some] at cp c0
            rw [u8_sum, show (((x - (qb : Int).toNat : Nat)) : Int) = (x : Int) - (qb : Int) by omega] at cp
            have xp : ∀ v : Ext w4.heap.size w4, v.world.cell? ⟨gp, op + x, none⟩ = some (.int .u8 (((z.toNat : Int) + ((x : Int) - (qb : Int))) % 256)) := fun v => (v.cell _ _ (World.block_lt_of_cell? w4 _ cp)).trans cp
            have xb : ∀ v : Ext w4.heap.size w4, v.world.cell? ⟨b2, off2 + i, none⟩ = some (.int .u8 (z.toNat : Int)) := fun v => (v.cell _ _ (World.block_lt_of_cell? w4 _ cb)).trans cb
            have x0 : ∀ v : Ext w4.heap.size w4, v.world.cell? ⟨b, off + i * 2, none⟩ = some (.int .i64 (qb : Int)) := fun v => (v.cell _ _ (World.block_lt_of_cell? w4 _ c0)).trans c0
            have hqb : (0 : Int) ≤ (qb : Int) := by omega
            have hgd : decide ((k : Int) ≤ (i : Int)) = false := by simp; omega
            have hge : decide (k ≤ i) = false := by simp; omega
            have hgf : decide ((i : Int) < 0) = false := by simp
            clear e hv hq hz' cp cb c0 hi'
            go_wp2_with fail
            refine region_ext (by kernel_rfl) (by kernel_rfl) ?_
            try simp only [List.append_eq, List.cons_append, List.nil_append]
            repeat (go_big_quiet_step (fail))
            refine wpQuiet_nil ?_
            intro v
            have B5 := Lib.hid (B4.out.trans (v.below.mono z4))
            clear xp xb x0
            go_wp2
            go_roundw
            case rel => exact ⟨x + 1, by omega, by go_num, B5.out⟩
            case measure => simp [intOf]; omega
        · have hxi : ¬ (x : Int) < 4096 := by omega
          go_wp2_with fail
          refine (HTW.out _).mono ?_
          rintro e w8 ⟨rfl, b8⟩
          have D8 := Lib.hid (HB.out.trans (b8.mono HB.out.size))
          clear b8
          go_wp2
          go_ret
          exact ⟨rfl, D8.out⟩
theorem nobody (l : List Reg) (bs : List UInt8) (A A2 : Option Addr) (c c2 : Nat) (hc : l.length ≤ c) (w : World) (h : Rd w A (regCells l)) (h2 : Rd w A2 (bcs bs)) : Calls Try.prog 8 #[.slice A l.length c, .slice A2 bs.length c2] w fun e w' => e = .returned (.bool true) ∧ Below w.heap.size w w' := by
  by_cases h0 : (20 : Int) < (l.length : Int)
  · exact nob1 A A2 l.length c bs.length c2 h0 w
  by_cases h1 : (bs.length : Int) < (l.length : Int)
  · exact nob2 A A2 l.length c bs.length c2 (by omega) h1 w
  by_cases h3 : allE l = 0
  · exact nob_main l bs A A2 l.length c bs.length c2 rfl hc rfl (by omega) (by omega) h3 w h h2
  · refine nob3 l A A2 l.length c bs.length c2 rfl hc (by omega) (by omega) ?_ w h
    unfold allE at h3 ⊢
    split at h3
    · split at h3
      · exact absurd rfl h3
      · rename_i g1 g2
        rw [if_pos g1, if_neg g2]; exact .inr rfl
    · rename_i g1
      rw [if_neg g1]; exact .inl rfl
end Go.Proofs.Ytjliaojanmbicaa.phys
