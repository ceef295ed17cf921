/- Calls of a partition: the table of calls; Do of what may not be; no condition. -/
import Derived.Test.YthkkmnckidfmkaaRows
import Derived.Test.YthkkmnckidfmkaaHyH
import Derived.Deep.CutRange
namespace Go.Proofs.Ythkkmnckidfmkaa.hy
open Go Go.ChangeShapes Go.WideShapes Go.ChangeAt Go.RowKit Go.Proofs.Ythkkmnckidfmkaa.rows
/-- The table of calls of the caller in block g. -/
def calls14 (g : Nat) : Array Value := #[.string { data := #[121, 105, 101, 108, 100] }, .func (.func 36) #[.pointer (some ⟨g, 0, none⟩)] #[], .string { data := #[115, 101, 110, 100] }, .func (.func 37) #[.pointer (some ⟨g, 0, none⟩)] #[], .string { data := #[114, 101, 99, 101, 105, 118, 101] }, .func (.func 38) #[.pointer (some ⟨g, 0, none⟩)] #[], .string { data := #[110, 111, 119] }, .func (.func 39) #[.pointer (some ⟨g, 0, none⟩)] #[], .string { data := #[105, 110, 112, 117, 116] }, .func (.func 40) #[.pointer (some ⟨g, 0, none⟩)] #[], .string { data := #[115, 101, 108, 102] }, .func (.func 41) #[.pointer (some ⟨g, 0, none⟩)] #[], .string { data := #[104, 97, 108, 116] }, .func (.func 42) #[.pointer (some ⟨g, 0, none⟩)] #[]]
theorem info_calls : (Try.prog.info? 64).map (·.size) = some 14 := by kernel_rfl
set_option maxHeartbeats 1000000 in
theorem calls (g : Nat) (w : World) : Calls Try.prog 24 #[.pointer (some ⟨g, 0, none⟩)] w fun e w' => e = .returned (.agg (calls14 g)) ∧ Below w.heap.size w w' := by
  have G0 := Lib.hid (blk_new w #[.string { data := #[] }, .nilFunc, .string { data := #[] }, .nilFunc, .string { data := #[] }, .nilFunc, .string { data := #[] }, .nilFunc, .string { data := #[] }, .nilFunc, .string { data := #[] }, .nilFunc, .string { data := #[] }, .nilFunc] 64)
  have B0 := Lib.hid (ext1 w (.cells #[.string { data := #[] }, .nilFunc, .string { data := #[] }, .nilFunc, .string { data := #[] }, .nilFunc, .string { data := #[] }, .nilFunc, .string { data := #[] }, .nilFunc, .string { data := #[] }, .nilFunc, .string { data := #[] }, .nilFunc] 64))
  go_enter Try.func24, Try.ntmps24
  go_wp2_with (refine wpList_store_at rfl 64 (.tmp 2) (.tmp 24) rfl w.heap.size (calls14 g) rfl rfl 64 _ G0.out info_calls rfl (by simp [calls14, Value.oneCell']) ?_)
  intro w3 hw3
  have B3 := Lib.hid (below_row B0.out (Nat.le_refl _) (calls14 g))
  have G3 := Lib.hid (blk_row G0.out (calls14 g))
  rw [← hw3.out] at B3 G3
  clear hw3
  go_wp2
  refine ret_row rfl w.heap.size 64 _ _ rfl G3.out Try.underlying64 rfl info_calls rfl ?_
  exact ⟨rfl, B3.out⟩
theorem ret_rows2 {P : Program} {fn : Func} {R : Ending → World → Prop} {a : Act} {w : World} {p p2 u u2 : Tmp} {ty ty2 : TypeId} (h : fn.results = #[.cell p ty, .cell p2 ty2, .tmp u, .tmp u2]) (g g2 : Nat) (t t2 : TypeId) (cs cs2 : Array Value) (d d2 : TypeDesc)
    (hp : a.tmps.getD p undef = .pointer (some ⟨g, 0, none⟩)) (hg : w.heap[g]? = some (.cells cs t (0, 0))) (hu : P.underlying ty = some d) (hd : (match d with | .struct _ | .array _ _ => true | _ => false) = true) (hi : (P.info? ty).map (·.size) = some cs.size)
    (hp2 : a.tmps.getD p2 undef = .pointer (some ⟨g2, 0, none⟩)) (hg2 : w.heap[g2]? = some (.cells cs2 t2 (0, 0))) (hu2 : P.underlying ty2 = some d2) (hd2 : (match d2 with | .struct _ | .array _ _ => true | _ => false) = true) (hi2 : (P.info? ty2).map (·.size) = some cs2.size)
    (hdef : a.defers = []) (hR : R (.returned (.tuple #[.agg cs, .agg cs2, a.tmps.getD u undef, a.tmps.getD u2 undef])) w) : bodyPost P fn R .ret a w := by
  refine bodyPost_ret (v := .tuple #[.agg cs, .agg cs2, a.tmps.getD u undef, a.tmps.getD u2 undef]) ?_ hdef hR
  have e : (results fn a.tmps).run P w = ((asAddr (a.tmps.getD p undef)).run P w).andThen fun b w₁ => ((loadVar ty b).run P w₁).andThen fun x w₂ => ((asAddr (a.tmps.getD p2 undef)).run P w₂).andThen fun b2 w₃ => ((loadVar ty2 b2).run P w₃).andThen fun x2 w₄ => .ok (.tuple #[x, x2, a.tmps.getD u undef, a.tmps.getD u2 undef]) w₄ := by
    simp only [results, h]
    simp [Sem.run_bind, Result.andThen]
  rw [e, hp, hp2]
  simp [asAddr, run_loadVar_row w g t ty cs (0, 0) d hg hu hd hi, run_loadVar_row w g2 t2 ty2 cs2 (0, 0) d2 hg2 hu2 hd2 hi2, Result.andThen]
/-- May Do be? -/
def okD (x : Pt) (qs : List Qu) : Bool := decide (x.st = 0) && decide (x.mem.length ≤ 512) && !(qs.any fun q => !chan.mayQ q.ch q.msgs)
theorem box4 (x : Pt) (Am : Option Addr) (cm : Nat) (fr tk ver : Int) (qs : List Qu) (inp : Msg) (B : Option Addr) (d : Nat) (Ci : Option Addr) (ci : Nat) (w : World) : Below w.heap.size w ((((w.alloc (.cells #[.int .i64 x.id, .int .i64 x.size, .bool x.keep, .int .u32 x.r0, .int .u32 x.r1, .int .u32 x.r2, .int .u32 x.r3, .int .u32 x.r4, .int .u32 x.r5, .int .u32 x.r6, .int .u32 x.r7, .int .u32 x.pc, .int .u8 x.st, .slice Am x.mem.length cm] 26)).alloc (.cells #[.int .i64 fr, .int .i64 tk, .int .i64 ver, .slice B qs.length d, .slice Ci inp.length ci] 37)).alloc (.cells #[.int .i64 0, .int .i64 0, .bool false, .int .u32 0, .int .u32 0, .int .u32 0, .int .u32 0, .int .u32 0, .int .u32 0, .int .u32 0, .int .u32 0, .int .u32 0, .int .u8 0, .slice none 0 0] 26)).alloc (.cells #[.int .i64 0, .int .i64 0, .int .i64 0, .slice none 0 0, .slice none 0 0] 37)) ∧ ((((w.alloc (.cells #[.int .i64 x.id, .int .i64 x.size, .bool x.keep, .int .u32 x.r0, .int .u32 x.r1, .int .u32 x.r2, .int .u32 x.r3, .int .u32 x.r4, .int .u32 x.r5, .int .u32 x.r6, .int .u32 x.r7, .int .u32 x.pc, .int .u8 x.st, .slice Am x.mem.length cm] 26)).alloc (.cells #[.int .i64 fr, .int .i64 tk, .int .i64 ver, .slice B qs.length d, .slice Ci inp.length ci] 37)).alloc (.cells #[.int .i64 0, .int .i64 0, .bool false, .int .u32 0, .int .u32 0, .int .u32 0, .int .u32 0, .int .u32 0, .int .u32 0, .int .u32 0, .int .u32 0, .int .u32 0, .int .u8 0, .slice none 0 0] 26)).alloc (.cells #[.int .i64 0, .int .i64 0, .int .i64 0, .slice none 0 0, .slice none 0 0] 37)).heap.size = w.heap.size + 4 ∧ ((((w.alloc (.cells #[.int .i64 x.id, .int .i64 x.size, .bool x.keep, .int .u32 x.r0, .int .u32 x.r1, .int .u32 x.r2, .int .u32 x.r3, .int .u32 x.r4, .int .u32 x.r5, .int .u32 x.r6, .int .u32 x.r7, .int .u32 x.pc, .int .u8 x.st, .slice Am x.mem.length cm] 26)).alloc (.cells #[.int .i64 fr, .int .i64 tk, .int .i64 ver, .slice B qs.length d, .slice Ci inp.length ci] 37)).alloc (.cells #[.int .i64 0, .int .i64 0, .bool false, .int .u32 0, .int .u32 0, .int .u32 0, .int .u32 0, .int .u32 0, .int .u32 0, .int .u32 0, .int .u32 0, .int .u32 0, .int .u8 0, .slice none 0 0] 26)).alloc (.cells #[.int .i64 0, .int .i64 0, .int .i64 0, .slice none 0 0, .slice none 0 0] 37)).heap[w.heap.size]? = some (.cells #[.int .i64 x.id, .int .i64 x.size, .bool x.keep, .int .u32 x.r0, .int .u32 x.r1, .int .u32 x.r2, .int .u32 x.r3, .int .u32 x.r4, .int .u32 x.r5, .int .u32 x.r6, .int .u32 x.r7, .int .u32 x.pc, .int .u8 x.st, .slice Am x.mem.length cm] 26 (0, 0)) ∧ ((((w.alloc (.cells #[.int .i64 x.id, .int .i64 x.size, .bool x.keep, .int .u32 x.r0, .int .u32 x.r1, .int .u32 x.r2, .int .u32 x.r3, .int .u32 x.r4, .int .u32 x.r5, .int .u32 x.r6, .int .u32 x.r7, .int .u32 x.pc, .int .u8 x.st, .slice Am x.mem.length cm] 26)).alloc (.cells #[.int .i64 fr, .int .i64 tk, .int .i64 ver, .slice B qs.length d, .slice Ci inp.length ci] 37)).alloc (.cells #[.int .i64 0, .int .i64 0, .bool false, .int .u32 0, .int .u32 0, .int .u32 0, .int .u32 0, .int .u32 0, .int .u32 0, .int .u32 0, .int .u32 0, .int .u32 0, .int .u8 0, .slice none 0 0] 26)).alloc (.cells #[.int .i64 0, .int .i64 0, .int .i64 0, .slice none 0 0, .slice none 0 0] 37)).heap[w.heap.size + 1]? = some (.cells #[.int .i64 fr, .int .i64 tk, .int .i64 ver, .slice B qs.length d, .slice Ci inp.length ci] 37 (0, 0)) ∧ ((((w.alloc (.cells #[.int .i64 x.id, .int .i64 x.size, .bool x.keep, .int .u32 x.r0, .int .u32 x.r1, .int .u32 x.r2, .int .u32 x.r3, .int .u32 x.r4, .int .u32 x.r5, .int .u32 x.r6, .int .u32 x.r7, .int .u32 x.pc, .int .u8 x.st, .slice Am x.mem.length cm] 26)).alloc (.cells #[.int .i64 fr, .int .i64 tk, .int .i64 ver, .slice B qs.length d, .slice Ci inp.length ci] 37)).alloc (.cells #[.int .i64 0, .int .i64 0, .bool false, .int .u32 0, .int .u32 0, .int .u32 0, .int .u32 0, .int .u32 0, .int .u32 0, .int .u32 0, .int .u32 0, .int .u32 0, .int .u8 0, .slice none 0 0] 26)).alloc (.cells #[.int .i64 0, .int .i64 0, .int .i64 0, .slice none 0 0, .slice none 0 0] 37)).heap[w.heap.size + 2]? = some (.cells #[.int .i64 0, .int .i64 0, .bool false, .int .u32 0, .int .u32 0, .int .u32 0, .int .u32 0, .int .u32 0, .int .u32 0, .int .u32 0, .int .u32 0, .int .u32 0, .int .u8 0, .slice none 0 0] 26 (0, 0)) ∧ ((((w.alloc (.cells #[.int .i64 x.id, .int .i64 x.size, .bool x.keep, .int .u32 x.r0, .int .u32 x.r1, .int .u32 x.r2, .int .u32 x.r3, .int .u32 x.r4, .int .u32 x.r5, .int .u32 x.r6, .int .u32 x.r7, .int .u32 x.pc, .int .u8 x.st, .slice Am x.mem.length cm] 26)).alloc (.cells #[.int .i64 fr, .int .i64 tk, .int .i64 ver, .slice B qs.length d, .slice Ci inp.length ci] 37)).alloc (.cells #[.int .i64 0, .int .i64 0, .bool false, .int .u32 0, .int .u32 0, .int .u32 0, .int .u32 0, .int .u32 0, .int .u32 0, .int .u32 0, .int .u32 0, .int .u32 0, .int .u8 0, .slice none 0 0] 26)).alloc (.cells #[.int .i64 0, .int .i64 0, .int .i64 0, .slice none 0 0, .slice none 0 0] 37)).heap[w.heap.size + 3]? = some (.cells #[.int .i64 0, .int .i64 0, .int .i64 0, .slice none 0 0, .slice none 0 0] 37 (0, 0)) := by
  have b1 := ext1 w (.cells #[.int .i64 x.id, .int .i64 x.size, .bool x.keep, .int .u32 x.r0, .int .u32 x.r1, .int .u32 x.r2, .int .u32 x.r3, .int .u32 x.r4, .int .u32 x.r5, .int .u32 x.r6, .int .u32 x.r7, .int .u32 x.pc, .int .u8 x.st, .slice Am x.mem.length cm] 26)
  have b2 := ext1 (w.alloc (.cells #[.int .i64 x.id, .int .i64 x.size, .bool x.keep, .int .u32 x.r0, .int .u32 x.r1, .int .u32 x.r2, .int .u32 x.r3, .int .u32 x.r4, .int .u32 x.r5, .int .u32 x.r6, .int .u32 x.r7, .int .u32 x.pc, .int .u8 x.st, .slice Am x.mem.length cm] 26)) (.cells #[.int .i64 fr, .int .i64 tk, .int .i64 ver, .slice B qs.length d, .slice Ci inp.length ci] 37)
  have b3 := ext1 ((w.alloc (.cells #[.int .i64 x.id, .int .i64 x.size, .bool x.keep, .int .u32 x.r0, .int .u32 x.r1, .int .u32 x.r2, .int .u32 x.r3, .int .u32 x.r4, .int .u32 x.r5, .int .u32 x.r6, .int .u32 x.r7, .int .u32 x.pc, .int .u8 x.st, .slice Am x.mem.length cm] 26)).alloc (.cells #[.int .i64 fr, .int .i64 tk, .int .i64 ver, .slice B qs.length d, .slice Ci inp.length ci] 37)) (.cells #[.int .i64 0, .int .i64 0, .bool false, .int .u32 0, .int .u32 0, .int .u32 0, .int .u32 0, .int .u32 0, .int .u32 0, .int .u32 0, .int .u32 0, .int .u32 0, .int .u8 0, .slice none 0 0] 26)
  have b4 := ext1 (((w.alloc (.cells #[.int .i64 x.id, .int .i64 x.size, .bool x.keep, .int .u32 x.r0, .int .u32 x.r1, .int .u32 x.r2, .int .u32 x.r3, .int .u32 x.r4, .int .u32 x.r5, .int .u32 x.r6, .int .u32 x.r7, .int .u32 x.pc, .int .u8 x.st, .slice Am x.mem.length cm] 26)).alloc (.cells #[.int .i64 fr, .int .i64 tk, .int .i64 ver, .slice B qs.length d, .slice Ci inp.length ci] 37)).alloc (.cells #[.int .i64 0, .int .i64 0, .bool false, .int .u32 0, .int .u32 0, .int .u32 0, .int .u32 0, .int .u32 0, .int .u32 0, .int .u32 0, .int .u32 0, .int .u32 0, .int .u8 0, .slice none 0 0] 26)) (.cells #[.int .i64 0, .int .i64 0, .int .i64 0, .slice none 0 0, .slice none 0 0] 37)
  refine ⟨b1.trans ((b2.trans ((b3.trans (b4.mono b3.size)).mono b2.size)).mono b1.size), by simp, ?_, ?_, ?_, ?_⟩
  · exact blk_alloc (blk_alloc (blk_alloc (blk_new w _ _) _) _) _
  · exact blk_alloc (blk_alloc (blk_new2 w _ _ _) _) _
  · have := blk_new ((w.alloc (.cells #[.int .i64 x.id, .int .i64 x.size, .bool x.keep, .int .u32 x.r0, .int .u32 x.r1, .int .u32 x.r2, .int .u32 x.r3, .int .u32 x.r4, .int .u32 x.r5, .int .u32 x.r6, .int .u32 x.r7, .int .u32 x.pc, .int .u8 x.st, .slice Am x.mem.length cm] 26)).alloc (.cells #[.int .i64 fr, .int .i64 tk, .int .i64 ver, .slice B qs.length d, .slice Ci inp.length ci] 37)) #[.int .i64 0, .int .i64 0, .bool false, .int .u32 0, .int .u32 0, .int .u32 0, .int .u32 0, .int .u32 0, .int .u32 0, .int .u32 0, .int .u32 0, .int .u32 0, .int .u8 0, .slice none 0 0] 26
    have h := blk_alloc this (.cells #[.int .i64 0, .int .i64 0, .int .i64 0, .slice none 0 0, .slice none 0 0] 37)
    simpa using h
  · have := blk_new (((w.alloc (.cells #[.int .i64 x.id, .int .i64 x.size, .bool x.keep, .int .u32 x.r0, .int .u32 x.r1, .int .u32 x.r2, .int .u32 x.r3, .int .u32 x.r4, .int .u32 x.r5, .int .u32 x.r6, .int .u32 x.r7, .int .u32 x.pc, .int .u8 x.st, .slice Am x.mem.length cm] 26)).alloc (.cells #[.int .i64 fr, .int .i64 tk, .int .i64 ver, .slice B qs.length d, .slice Ci inp.length ci] 37)).alloc (.cells #[.int .i64 0, .int .i64 0, .bool false, .int .u32 0, .int .u32 0, .int .u32 0, .int .u32 0, .int .u32 0, .int .u32 0, .int .u32 0, .int .u32 0, .int .u32 0, .int .u8 0, .slice none 0 0] 26)) #[.int .i64 0, .int .i64 0, .int .i64 0, .slice none 0 0, .slice none 0 0] 37
    simpa using this
set_option maxRecDepth 100000 in
set_option maxHeartbeats 4000000 in
theorem do_bad (n : Int) (x : Pt) (Am : Option Addr) (cm : Nat) (fr tk ver : Int) (qs : List Qu) (inp : Msg) (B : Option Addr) (d : Nat) (Ci : Option Addr) (ci : Nat) (hs : Small qs inp) (hok : okD x qs = false) (w : World) (hw : WIn w B d qs Ci ci inp) :
    Calls Try.prog 9 #[.int .i64 n, .agg #[.int .i64 x.id, .int .i64 x.size, .bool x.keep, .int .u32 x.r0, .int .u32 x.r1, .int .u32 x.r2, .int .u32 x.r3, .int .u32 x.r4, .int .u32 x.r5, .int .u32 x.r6, .int .u32 x.r7, .int .u32 x.pc, .int .u8 x.st, .slice Am x.mem.length cm], .agg #[.int .i64 fr, .int .i64 tk, .int .i64 ver, .slice B qs.length d, .slice Ci inp.length ci]] w fun e w' => e = .returned (.tuple #[.agg #[.int .i64 0, .int .i64 0, .bool false, .int .u32 0, .int .u32 0, .int .u32 0, .int .u32 0, .int .u32 0, .int .u32 0, .int .u32 0, .int .u32 0, .int .u32 0, .int .u8 0, .slice none 0 0], .agg #[.int .i64 0, .int .i64 0, .int .i64 0, .slice none 0 0, .slice none 0 0], .bool false, .int .i64 2]) ∧ Below w.heap.size w w' := by
  obtain ⟨hX, hsz, g0, g1, g2, g3⟩ := box4 x Am cm fr tk ver qs inp B d Ci ci w
  obtain ⟨hq, hd, hB, hi, hci, hCi⟩ := hw
  obtain ⟨s1, s2, s3⟩ := hs
  have G0 := Lib.hid g0; have G1 := Lib.hid g1; have G2 := Lib.hid g2; have G3 := Lib.hid g3; have HX := Lib.hid hX; have HQ := Lib.hid (hq.below hX)
  have HS3 := Lib.hid s3; have HSZ := Lib.hid hsz
  clear g0 g1 g2 g3 hX hsz hq hi hci hCi hB hd s3
  have T := contains_bad qs B qs.length d rfl s1 (fun q hq => (HS3.out q hq).1) _ HQ.out
  obtain ⟨nq, hnq⟩ : ∃ m, qs.length = m := ⟨_, rfl⟩
  obtain ⟨ni, hni⟩ : ∃ m, inp.length = m := ⟨_, rfl⟩
  obtain ⟨ml, hml⟩ : ∃ m, x.mem.length = m := ⟨_, rfl⟩
  obtain ⟨bad, hbad⟩ : ∃ b, (qs.any fun q => !chan.mayQ q.ch q.msgs) = b := ⟨_, rfl⟩
  unfold okD at hok
  rw [hbad, hml] at hok
  rw [hbad] at T
  rw [hnq, hml, hni] at T
  simp only [hnq, hni, hml] at T G0 G1 G2 G3 HX HQ HSZ s1 s2 ⊢
  have HT := Lib.hid T; clear T hnq hni hml hbad
  have a12 := blk_cell G0.out 12; have a13 := blk_cell G0.out 13; have c3 := blk_cell G1.out 3
  have hq2 : x.st ≠ 0 ∨ 512 < ml ∨ bad = true := by by_cases h1 : x.st = 0 <;> by_cases h2 : ml ≤ 512 <;> cases bad <;> simp_all <;> omega
  clear hok
  clear a12 a13 c3
  go_enter Try.func9, Try.ntmps9
  go_upto_region 1 with fail
  generalize ((((w.alloc (.cells #[.int .i64 x.id, .int .i64 x.size, .bool x.keep, .int .u32 x.r0, .int .u32 x.r1, .int .u32 x.r2, .int .u32 x.r3, .int .u32 x.r4, .int .u32 x.r5, .int .u32 x.r6, .int .u32 x.r7, .int .u32 x.pc, .int .u8 x.st, .slice Am ml cm] 26)).alloc (.cells #[.int .i64 fr, .int .i64 tk, .int .i64 ver, .slice B nq d, .slice Ci ni ci] 37)).alloc (.cells #[.int .i64 0, .int .i64 0, .bool false, .int .u32 0, .int .u32 0, .int .u32 0, .int .u32 0, .int .u32 0, .int .u32 0, .int .u32 0, .int .u32 0, .int .u32 0, .int .u8 0, .slice none 0 0] 26)).alloc (.cells #[.int .i64 0, .int .i64 0, .int .i64 0, .slice none 0 0, .slice none 0 0] 37)) = wb at *
  have a12 := blk_cell G0.out 12; have a13 := blk_cell G0.out 13; have c3 := blk_cell G1.out 3
  by_cases h1 : x.st = 0
  · have h1b : (x.st == 0) = true := by simp [h1]
    have h1c : (x.st != 0) = false := by simp [h1]
    have hq3 : 512 < ml ∨ bad = true := hq2.resolve_left (fun h => h h1)
    clear hq2 h1
    by_cases h2 : 512 < ml
    · have h2b : (512 : Int) < (ml : Int) := by omega
      clear hq3 HT h2
      go_wp2_with (refine wpList_store_at rfl 26 (.tmp 6) (.tmp 28) rfl (w.heap.size + 2) #[.int .i64 0, .int .i64 0, .bool false, .int .u32 0, .int .u32 0, .int .u32 0, .int .u32 0, .int .u32 0, .int .u32 0, .int .u32 0, .int .u32 0, .int .u32 0, .int .u8 0, .slice none 0 0] rfl rfl 26 _ G2.out info_pt rfl (by simp [Value.oneCell']) ?_)
      intro w3 hw3
      have K2 := Lib.hid (blk_row G2.out #[.int .i64 0, .int .i64 0, .bool false, .int .u32 0, .int .u32 0, .int .u32 0, .int .u32 0, .int .u32 0, .int .u32 0, .int .u32 0, .int .u32 0, .int .u32 0, .int .u8 0, .slice none 0 0]); have K3 := Lib.hid (blk_row_ne G3.out (show w.heap.size + 3 ≠ w.heap.size + 2 by omega) #[.int .i64 0, .int .i64 0, .bool false, .int .u32 0, .int .u32 0, .int .u32 0, .int .u32 0, .int .u32 0, .int .u32 0, .int .u32 0, .int .u32 0, .int .u32 0, .int .u8 0, .slice none 0 0]); have KB := Lib.hid (below_row HX.out (show w.heap.size ≤ w.heap.size + 2 by omega) #[.int .i64 0, .int .i64 0, .bool false, .int .u32 0, .int .u32 0, .int .u32 0, .int .u32 0, .int .u32 0, .int .u32 0, .int .u32 0, .int .u32 0, .int .u32 0, .int .u8 0, .slice none 0 0])
      rw [← hw3.out] at K2 K3 KB
      clear hw3
      go_wp2_with (refine wpList_store_at rfl 37 (.tmp 7) (.tmp 29) rfl (w.heap.size + 3) #[.int .i64 0, .int .i64 0, .int .i64 0, .slice none 0 0, .slice none 0 0] rfl rfl 37 _ K3.out info_w rfl (by simp [Value.oneCell']) ?_)
      intro w4 hw4
      have L3 := Lib.hid (blk_row K3.out #[.int .i64 0, .int .i64 0, .int .i64 0, .slice none 0 0, .slice none 0 0]); have L2 := Lib.hid (blk_row_ne K2.out (show w.heap.size + 2 ≠ w.heap.size + 3 by omega) #[.int .i64 0, .int .i64 0, .int .i64 0, .slice none 0 0, .slice none 0 0]); have LB := Lib.hid (below_row KB.out (show w.heap.size ≤ w.heap.size + 3 by omega) #[.int .i64 0, .int .i64 0, .int .i64 0, .slice none 0 0, .slice none 0 0])
      rw [← hw4.out] at L2 L3 LB
      clear hw4
      go_wp2
      refine ret_rows2 rfl (w.heap.size + 2) (w.heap.size + 3) 26 37 _ _ _ _ rfl L2.out Try.underlying26 rfl info_pt rfl L3.out Try.underlying37 rfl info_w rfl ?_
      exact ⟨rfl, LB.out⟩
    · have h2b : (ml : Int) ≤ 512 := by omega
      obtain rfl : bad = true := hq3.resolve_left h2
      clear hq3 h2
      go_wp2_with fail
      refine HT.out.mono ?_
      rintro e w2 ⟨rfl, b2⟩
      clear HT a12 a13 c3
      have N2 := Lib.hid (blk_below G2.out b2 (blk_lt G2.out)); have N3 := Lib.hid (blk_below G3.out b2 (blk_lt G3.out)); have NX := Lib.hid (HX.out.trans (b2.mono HX.out.size))
      clear b2
      go_wp2_with (refine wpList_store_at rfl 26 (.tmp 6) (.tmp 28) rfl (w.heap.size + 2) #[.int .i64 0, .int .i64 0, .bool false, .int .u32 0, .int .u32 0, .int .u32 0, .int .u32 0, .int .u32 0, .int .u32 0, .int .u32 0, .int .u32 0, .int .u32 0, .int .u8 0, .slice none 0 0] rfl rfl 26 _ N2.out info_pt rfl (by simp [Value.oneCell']) ?_)
      intro w3 hw3
      have K2 := Lib.hid (blk_row N2.out #[.int .i64 0, .int .i64 0, .bool false, .int .u32 0, .int .u32 0, .int .u32 0, .int .u32 0, .int .u32 0, .int .u32 0, .int .u32 0, .int .u32 0, .int .u32 0, .int .u8 0, .slice none 0 0]); have K3 := Lib.hid (blk_row_ne N3.out (show w.heap.size + 3 ≠ w.heap.size + 2 by omega) #[.int .i64 0, .int .i64 0, .bool false, .int .u32 0, .int .u32 0, .int .u32 0, .int .u32 0, .int .u32 0, .int .u32 0, .int .u32 0, .int .u32 0, .int .u32 0, .int .u8 0, .slice none 0 0]); have KB := Lib.hid (below_row NX.out (show w.heap.size ≤ w.heap.size + 2 by omega) #[.int .i64 0, .int .i64 0, .bool false, .int .u32 0, .int .u32 0, .int .u32 0, .int .u32 0, .int .u32 0, .int .u32 0, .int .u32 0, .int .u32 0, .int .u32 0, .int .u8 0, .slice none 0 0])
      rw [← hw3.out] at K2 K3 KB
      clear hw3
      go_wp2_with (refine wpList_store_at rfl 37 (.tmp 7) (.tmp 29) rfl (w.heap.size + 3) #[.int .i64 0, .int .i64 0, .int .i64 0, .slice none 0 0, .slice none 0 0] rfl rfl 37 _ K3.out info_w rfl (by simp [Value.oneCell']) ?_)
      intro w4 hw4
      have L3 := Lib.hid (blk_row K3.out #[.int .i64 0, .int .i64 0, .int .i64 0, .slice none 0 0, .slice none 0 0]); have L2 := Lib.hid (blk_row_ne K2.out (show w.heap.size + 2 ≠ w.heap.size + 3 by omega) #[.int .i64 0, .int .i64 0, .int .i64 0, .slice none 0 0, .slice none 0 0]); have LB := Lib.hid (below_row KB.out (show w.heap.size ≤ w.heap.size + 3 by omega) #[.int .i64 0, .int .i64 0, .int .i64 0, .slice none 0 0, .slice none 0 0])
      rw [← hw4.out] at L2 L3 LB
      clear hw4
      go_wp2
      refine ret_rows2 rfl (w.heap.size + 2) (w.heap.size + 3) 26 37 _ _ _ _ rfl L2.out Try.underlying26 rfl info_pt rfl L3.out Try.underlying37 rfl info_w rfl ?_
      exact ⟨rfl, LB.out⟩
  · have h1b : (x.st == 0) = false := by simp [h1]
    have h1c : (x.st != 0) = true := by simp [h1]
    clear hq2 h1 HT
    go_wp2_with (refine wpList_store_at rfl 26 (.tmp 6) (.tmp 28) rfl (w.heap.size + 2) #[.int .i64 0, .int .i64 0, .bool false, .int .u32 0, .int .u32 0, .int .u32 0, .int .u32 0, .int .u32 0, .int .u32 0, .int .u32 0, .int .u32 0, .int .u32 0, .int .u8 0, .slice none 0 0] rfl rfl 26 _ G2.out info_pt rfl (by simp [Value.oneCell']) ?_)
    intro w3 hw3
    have K2 := Lib.hid (blk_row G2.out #[.int .i64 0, .int .i64 0, .bool false, .int .u32 0, .int .u32 0, .int .u32 0, .int .u32 0, .int .u32 0, .int .u32 0, .int .u32 0, .int .u32 0, .int .u32 0, .int .u8 0, .slice none 0 0]); have K3 := Lib.hid (blk_row_ne G3.out (show w.heap.size + 3 ≠ w.heap.size + 2 by omega) #[.int .i64 0, .int .i64 0, .bool false, .int .u32 0, .int .u32 0, .int .u32 0, .int .u32 0, .int .u32 0, .int .u32 0, .int .u32 0, .int .u32 0, .int .u32 0, .int .u8 0, .slice none 0 0]); have KB := Lib.hid (below_row HX.out (show w.heap.size ≤ w.heap.size + 2 by omega) #[.int .i64 0, .int .i64 0, .bool false, .int .u32 0, .int .u32 0, .int .u32 0, .int .u32 0, .int .u32 0, .int .u32 0, .int .u32 0, .int .u32 0, .int .u32 0, .int .u8 0, .slice none 0 0])
    rw [← hw3.out] at K2 K3 KB
    clear hw3
    go_wp2_with (refine wpList_store_at rfl 37 (.tmp 7) (.tmp 29) rfl (w.heap.size + 3) #[.int .i64 0, .int .i64 0, .int .i64 0, .slice none 0 0, .slice none 0 0] rfl rfl 37 _ K3.out info_w rfl (by simp [Value.oneCell']) ?_)
    intro w4 hw4
    have L3 := Lib.hid (blk_row K3.out #[.int .i64 0, .int .i64 0, .int .i64 0, .slice none 0 0, .slice none 0 0]); have L2 := Lib.hid (blk_row_ne K2.out (show w.heap.size + 2 ≠ w.heap.size + 3 by omega) #[.int .i64 0, .int .i64 0, .int .i64 0, .slice none 0 0, .slice none 0 0]); have LB := Lib.hid (below_row KB.out (show w.heap.size ≤ w.heap.size + 3 by omega) #[.int .i64 0, .int .i64 0, .int .i64 0, .slice none 0 0, .slice none 0 0])
    rw [← hw4.out] at L2 L3 LB
    clear hw4
    go_wp2
    refine ret_rows2 rfl (w.heap.size + 2) (w.heap.size + 3) 26 37 _ _ _ _ rfl L2.out Try.underlying26 rfl info_pt rfl L3.out Try.underlying37 rfl info_w rfl ?_
    exact ⟨rfl, LB.out⟩
end Go.Proofs.Ythkkmnckidfmkaa.hy
