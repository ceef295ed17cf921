/- memory.Fill, at the chapter's rows; the law's awake. -/
import Derived.Test.YtjliaojanmbicaaRows
import Derived.Test.YtjliaojanmbicaaMemF
import Derived.Laws.CopyOwn
import Derived.Laws.OwnMore
import Derived.Laws.MakeOwn
namespace Go.Proofs.Ytjliaojanmbicaa.mem
open Go Go.ChangeShapes Go.WideShapes Go.ChangeAt Go.RowKit
theorem fill1 (A : Option Addr) (w : World) : Calls Try.prog 25 #[.int .i64 1, .slice A 2 2] w fun e w' => e = .returned (.tuple #[.slice none 0 0, .int .i64 2]) ∧ w' = w := by
  go_enter Try.func25, Try.ntmps25
  go_wp2
  refine bodyPost_ret (v := .tuple #[.slice none 0 0, .int .i64 2]) (by simp [results, Try.results25, go_sem]) rfl ⟨rfl, rfl⟩
theorem fill4 (b off : Nat) (w : World) (h : Rd w (some ⟨b, off, none⟩) (bcs [9, 9])) : Calls Try.prog 25 #[.int .i64 4, .slice (some ⟨b, off, none⟩) 2 2] w fun e w' => ∃ g, e = .returned (.tuple #[.slice (some ⟨g, 0, none⟩) 4 4, .int .i64 0]) ∧ w'.heap[g]? = some (.cells #[.int .u8 9, .int .u8 9, .int .u8 0, .int .u8 0] 5 (0, 0)) ∧ Below w.heap.size w w' := by
  have hm : Sem.run Try.prog (Instr.makeSlice 22 (.int .i64 4) (.int .i64 4)) w = .ok (.slice (some ⟨w.heap.size, 0, none⟩) 4 4) (w.alloc (.cells #[.int .u8 0, .int .u8 0, .int .u8 0, .int .u8 0] 5)) := by
    first | kernel_rfl | rfl | simp [Instr.makeSlice, go_sem]
  have hr := h.alloc (.cells #[.int .u8 0, .int .u8 0, .int .u8 0, .int .u8 0] 5)
  have h0 := hr.cell (j := 0) (u := .int .u8 9) rfl
  have h1 := hr.cell (j := 1) (u := .int .u8 9) rfl
  have hb := (Below.refl w.heap.size w).alloc (Nat.le_refl _) (.cells #[.int .u8 0, .int .u8 0, .int .u8 0, .int .u8 0] 5)
  have hg := blk_new w #[.int .u8 0, .int .u8 0, .int .u8 0, .int .u8 0] 5
  have hcp : Sem.run Try.prog (Builtin.copy_ #[22, 22] 3 #[.slice (some ⟨w.heap.size, 0, none⟩) 4 4, .slice (some ⟨b, off, none⟩) 2 2]) (w.alloc (.cells #[.int .u8 0, .int .u8 0, .int .u8 0, .int .u8 0] 5)) = .ok (.int .i64 2) ((w.alloc (.cells #[.int .u8 0, .int .u8 0, .int .u8 0, .int .u8 0] 5)).setRow w.heap.size #[.int .u8 9, .int .u8 9, .int .u8 0, .int .u8 0]) :=
    run_copy_row _ _ _ _ _ _ w.heap.size 0 4 4 ⟨b, off, none⟩ 2 2 _ _ [.int .u8 9, .int .u8 9] Try.underlying22 (by kernel_rfl) hg rfl (fun j v hv => by rw [Addr.add_lit]; exact hr.cell hv) (by decide) (fun v hv => by simp at hv; subst hv; rfl)
  have hb2 := Lib.hid (below_setRow hb (Nat.le_refl _) #[.int .u8 9, .int .u8 9, .int .u8 0, .int .u8 0])
  have hg2 := Lib.hid (setRow_heap _ _ _ #[.int .u8 9, .int .u8 9, .int .u8 0, .int .u8 0] _ _ hg)
  generalize ((w.alloc (.cells #[.int .u8 0, .int .u8 0, .int .u8 0, .int .u8 0] 5)).setRow w.heap.size #[.int .u8 9, .int .u8 9, .int .u8 0, .int .u8 0]) = W at *
  clear hr h h0 h1 hb hg
  go_enter Try.func25, Try.ntmps25
  go_wp2
  refine bodyPost_ret (v := .tuple #[.slice (some ⟨w.heap.size, 0, none⟩) 4 4, .int .i64 0]) (by simp [results, Try.results25, go_sem]) rfl ⟨_, rfl, hg2.out, hb2.out⟩
theorem load_c (l : List UInt8) (n : Nat) (hl : l.length = n) (i x y : Int) (hx : byteAt l i = x) (hy : thereE l.length i 1 = y) (A : Option Addr) (c : Nat) (hc : n ≤ c) (w : World) (h : Rd w A (bcs l)) :
    Calls Try.prog 10 #[.slice A n c, .int .i64 i] w fun e w' => e = .returned (.tuple #[.int .u8 x, .int .i64 y]) ∧ w' = w := by
  subst hl hx hy; exact load l A c hc i w h
theorem load32_c (l : List UInt8) (n : Nat) (hl : l.length = n) (i x y : Int) (hx : wordAt l i = x) (hy : thereE l.length i 4 = y) (A : Option Addr) (c : Nat) (hc : n ≤ c) (w : World) (h : Rd w A (bcs l)) :
    Calls Try.prog 12 #[.slice A n c, .int .i64 i] w fun e w' => e = .returned (.tuple #[.int .u32 x, .int .i64 y]) ∧ Below w.heap.size w w' := by
  subst hl hx hy; exact load32 l A c hc i w h
theorem read_c (l : List UInt8) (n : Nat) (hl : l.length = n) (i k y : Int) (z : List UInt8) (hz : part l i k = z) (hy : thereE l.length i k = y) (A : Option Addr) (c : Nat) (hA : A = none → c = 0) (hc : n ≤ c) (w : World) (h : Rd w A (bcs l)) :
    Calls Try.prog 14 #[.slice A n c, .int .i64 i, .int .i64 k] w fun e w' => ∃ v, e = .returned (.tuple #[v, .int .i64 y]) ∧ CopyOf z w v w' := by
  subst hl hz hy; exact read l A c hA hc i k w h
theorem Rd_of_blk {w : World} {g : Nat} {cs : Array Value} {t : TypeId} (h : w.heap[g]? = some (.cells cs t (0, 0))) : Rd w (some ⟨g, 0, none⟩) cs.toList :=
  .inr ⟨g, 0, rfl, blk_lt h, fun j u hu => by rw [Nat.zero_add, blk_cell h]; simpa using hu⟩
def l8 : List UInt8 := [0, 1, 2, 3, 4, 5, 6, 7]
set_option maxRecDepth 100000 in
set_option maxHeartbeats 4000000 in
theorem awake (w : World) : Calls Try.prog 16 #[] w fun e w' => e = .returned (.bool true) ∧ Below w.heap.size w w' := by
  have hr : Rd (w.alloc (.cells #[.int .u8 0, .int .u8 1, .int .u8 2, .int .u8 3, .int .u8 4, .int .u8 5, .int .u8 6, .int .u8 7] 5)) (some ⟨w.heap.size, 0, none⟩) (bcs l8) := Rd.new w #[.int .u8 0, .int .u8 1, .int .u8 2, .int .u8 3, .int .u8 4, .int .u8 5, .int .u8 6, .int .u8 7] 5
  have hb := (Below.refl w.heap.size w).alloc (Nat.le_refl _) (.cells #[.int .u8 0, .int .u8 1, .int .u8 2, .int .u8 3, .int .u8 4, .int .u8 5, .int .u8 6, .int .u8 7] 5)
  have HR := Lib.hid hr; have HB := Lib.hid hb; clear hr hb
  go_enter Try.func16, Try.ntmps16
  go_wp2_with fail
  generalize w.alloc (.cells #[.int .u8 0, .int .u8 1, .int .u8 2, .int .u8 3, .int .u8 4, .int .u8 5, .int .u8 6, .int .u8 7] 5) = w0 at *
  refine (load_c l8 8 rfl 7 7 0 (by decide) (by decide) _ 8 (by decide) _ HR.out).mono ?_
  rintro e w1 ⟨rfl, rfl⟩
  go_wp2_with fail
  refine (load_c l8 8 rfl 8 0 180 (by decide) (by decide) _ 8 (by decide) _ HR.out).mono ?_
  rintro e w1' ⟨rfl, rfl⟩
  go_wp2_with fail
  refine (load_c l8 8 rfl (-1) 0 180 (by decide) (by decide) _ 8 (by decide) _ HR.out).mono ?_
  rintro e w1'' ⟨rfl, rfl⟩
  obtain ⟨w0, rfl⟩ : ∃ w0 : World, w0 = w1'' := ⟨_, rfl⟩
  go_wp2_with fail
  refine (load32_c l8 8 rfl 4 67438087 0 (by decide) (by decide) _ 8 (by decide) _ HR.out).mono ?_
  rintro e w2 ⟨rfl, b2⟩
  have HR2 := Lib.hid (HR.out.below b2); have HB2 := Lib.hid (HB.out.trans (b2.mono HB.out.size)); clear b2
  go_wp2_with fail
  refine (load32_c l8 8 rfl 5 0 180 (by decide) (by decide) _ 8 (by decide) _ HR2.out).mono ?_
  rintro e w3 ⟨rfl, b3⟩
  have HR3 := Lib.hid (HR2.out.below b3); have HB3 := Lib.hid (HB2.out.trans (b3.mono HB2.out.size)); clear b3
  go_wp2_with fail
  refine (read_c l8 8 rfl 8 0 0 [] (by decide) (by decide) _ 8 (fun h => by cases h) (by decide) _ HR3.out).mono ?_
  rintro e w4 ⟨v, rfl, A1, c1, rfl, _, b4⟩
  have HR4 := Lib.hid (HR3.out.below b4); have HB4 := Lib.hid (HB3.out.trans (b4.mono HB3.out.size)); clear b4
  go_wp2_with fail
  refine (read_c l8 8 rfl 9 0 180 [] (by decide) (by decide) _ 8 (fun h => by cases h) (by decide) _ HR4.out).mono ?_
  rintro e w5 ⟨v, rfl, A2, c2, rfl, _, b5⟩
  have HB5 := Lib.hid (HB4.out.trans (b5.mono HB4.out.size)); clear b5
  have H99 := Lib.hid (Rd.new w5 #[.int .u8 9, .int .u8 9] 5)
  have HB6 := Lib.hid (HB5.out.alloc HB5.out.size (.cells #[.int .u8 9, .int .u8 9] 5))
  go_wp2_with fail
  refine (fill4 _ _ _ H99.out).mono ?_
  rintro e w6 ⟨g, rfl, hg, b6⟩
  have HG := Lib.hid hg
  have HB7 := Lib.hid (HB6.out.trans (b6.mono HB6.out.size)); clear b6 hg
  go_wp2_with fail
  refine (fill1 _ _).mono ?_
  rintro e w7 ⟨rfl, rfl⟩
  have r1 := str_rd [9, 9, 0, 0] _ 4 4 rfl _ (Rd_of_blk (blk_alloc HG.out (.cells #[.int .u8 9, .int .u8 9] 5)))
  have hY : (w6.alloc (.cells #[.int .u8 9, .int .u8 9] 5)).heap.size = w6.heap.size + 1 := by simp
  have hrd := Rd.new (w6.alloc (.cells #[.int .u8 9, .int .u8 9] 5)) #[.int .u8 9, .int .u8 9, .int .u8 0, .int .u8 0] 5
  rw [hY] at hrd
  have r2 := str_rd [9, 9, 0, 0] _ 4 4 rfl _ hrd
  have HZ := Lib.hid ((HB7.out.alloc HB7.out.size (.cells #[.int .u8 9, .int .u8 9] 5)).alloc (by rw [hY]; have := HB7.out.size; omega) (.cells #[.int .u8 9, .int .u8 9, .int .u8 0, .int .u8 0] 5))
  generalize (ByteArray.mk [9, 9, 0, 0].toArray) = S at *
  clear hrd hY
  go_wp2
  go_ret
  exact ⟨rfl, HZ.out⟩
end Go.Proofs.Ytjliaojanmbicaa.mem
