/- Calls of a partition: the chapter's rows: those ahead; no condition. -/
import Derived.Test.YthkkmnckidfmkaaRows
import Derived.Test.YthkkmnckidfmkaaHyM1
import Derived.Test.YthkkmnckidfmkaaHyR5
import Derived.Test.YthkkmnckidfmkaaHyR6
import Derived.Test.YthkkmnckidfmkaaHyR7
import Derived.Deep.CutRange
import Derived.Deep.RegionHeld3
import Derived.BigRegion
import Derived.Deep.Light
namespace Go.Proofs.Ythkkmnckidfmkaa.hy
open Go Go.ChangeShapes Go.WideShapes Go.ChangeAt Go.RowKit Go.Proofs.Ythkkmnckidfmkaa.rows
set_option linter.unusedSimpArgs false in
set_option maxRecDepth 100000 in
set_option maxHeartbeats 16000000 in
theorem awake5 {w0 wq : World} (hB : Below w0.heap.size w0 wq) {gw gq : Nat} (hV : wq.heap[gw]? = some (.cells #[.int .i64 5, .int .i64 3, .int .i64 9, .slice (some ⟨gq, 0, none⟩) 1 1, .slice none 0 0] 37 (0, 0))) (hW : WIn wq (some ⟨gq, 0, none⟩) 1 [⟨⟨1, 1, 2, 1, 4⟩, []⟩] none 0 []) {a10 : Nat} {A10 : Option Addr} {c10 : Nat} (h10 : wq.heap[a10]? = some (.cells #[.int .i64 2, .int .i64 16, .bool false, .int .u32 1, .int .u32 0, .int .u32 2, .int .u32 0, .int .u32 0, .int .u32 0, .int .u32 0, .int .u32 0, .int .u32 0, .int .u8 4, .slice A10 16 c10] 26 (0, 0))) {a14 : Nat} {A14 : Option Addr} {c14 : Nat} (h14 : wq.heap[a14]? = some (.cells #[.int .i64 1, .int .i64 16, .bool false, .int .u32 1, .int .u32 0, .int .u32 5, .int .u32 0, .int .u32 0, .int .u32 0, .int .u32 0, .int .u32 0, .int .u32 0, .int .u8 4, .slice A14 16 c14] 26 (0, 0))) {a18 : Nat} {A18 : Option Addr} {c18 : Nat} (h18 : wq.heap[a18]? = some (.cells #[.int .i64 1, .int .i64 16, .bool false, .int .u32 1, .int .u32 0, .int .u32 5, .int .u32 0, .int .u32 0, .int .u32 0, .int .u32 0, .int .u32 0, .int .u32 0, .int .u8 4, .slice A18 16 c18] 26 (0, 0))) (s : Nat → Value) :
    Code.wp Try.prog (rest 9 (Try.f7.body.getD .skip)) (bodyPost Try.prog Try.f7 fun e w' => e = .returned (.bool true) ∧ Below w0.heap.size w0 w') { tmps := #[s 0, .pointer (some ⟨gw, 0, none⟩), s 2, s 3, s 4, s 5, s 6, s 7, s 8, s 9, .pointer (some ⟨a10, 0, none⟩), s 11, s 12, s 13, .pointer (some ⟨a14, 0, none⟩), s 15, s 16, s 17, .pointer (some ⟨a18, 0, none⟩), s 19, s 20, s 21, s 22, s 23, s 24, s 25, s 26, s 27, s 28, s 29, s 30, s 31, s 32, s 33, s 34, s 35, s 36, s 37, s 38, s 39, s 40, s 41, s 42, s 43, s 44, s 45, s 46, s 47, s 48, s 49, s 50, s 51, s 52, s 53, s 54, s 55, s 56, s 57, s 58, s 59, s 60, s 61, s 62, s 63, s 64, s 65, s 66, s 67, s 68, s 69, s 70, s 71, s 72, s 73, s 74, s 75, s 76, s 77, s 78, s 79, s 80, s 81, s 82, s 83, s 84, s 85, s 86, s 87, s 88, s 89, s 90, s 91, s 92, s 93, s 94, s 95, s 96, s 97, s 98, s 99, s 100, s 101, s 102, s 103, s 104, s 105, s 106, s 107, s 108, s 109, s 110, s 111, s 112, s 113, s 114, s 115, s 116, s 117, s 118, s 119, s 120, s 121, s 122, s 123, s 124, s 125, s 126, s 127, s 128, s 129, s 130, s 131, s 132, s 133, s 134, s 135, s 136, s 137, s 138, s 139, s 140, s 141, s 142, s 143, s 144, s 145, s 146, s 147, s 148, s 149, s 150, s 151, s 152, s 153, s 154, s 155, s 156, s 157, s 158, s 159, s 160, s 161, s 162, s 163, s 164, s 165, s 166, s 167, s 168, s 169, s 170, s 171, s 172, s 173, s 174, s 175, s 176, s 177, s 178, s 179, s 180, s 181, s 182, s 183, s 184, s 185, s 186, s 187, s 188, s 189, s 190, s 191, s 192, s 193, s 194, s 195, s 196, s 197, s 198, s 199, s 200, s 201, s 202, s 203, s 204, s 205, s 206, s 207, s 208, s 209, s 210, s 211, s 212, s 213, s 214, s 215, s 216, s 217, s 218, s 219, s 220, s 221, s 222, s 223, s 224, s 225, s 226, s 227, s 228, s 229, s 230, s 231, s 232, s 233, s 234, s 235, s 236, s 237, s 238, s 239, s 240, s 241, s 242, s 243, s 244, s 245, s 246, s 247, s 248, s 249, s 250, s 251, s 252, s 253, s 254, s 255, s 256, s 257, s 258, s 259, s 260, s 261, s 262, s 263, s 264, s 265, s 266, s 267, s 268, s 269, s 270, s 271, s 272, s 273, s 274, s 275, s 276, s 277, s 278, s 279, s 280, s 281], defers := [] } wq := by
  have GV := Lib.hid hV; have WI := Lib.hid hW; have BB := Lib.hid hB
  have H10 := Lib.hid h10
  have H14 := Lib.hid h14
  have H18 := Lib.hid h18
  clear hV hW hB h10 h14 h18
  simp only [rest, Try.f7, Option.getD_some]
  go_upto_region 11 with fail
  obtain ⟨L, hL⟩ : ∃ l, wq.heap.size = l := ⟨_, rfl⟩
  have HL := Lib.hid hL
  go_cut [22, 23, 24, 25] from 163 to 170 (fun tX tY tz tf wc => Res L wq (fun A c => #[.int .i64 2, .int .i64 16, .bool false, .int .u32 0, .int .u32 0, .int .u32 2, .int .u32 0, .int .u32 0, .int .u32 0, .int .u32 0, .int .u32 0, .int .u32 0, .int .u8 0, .slice A 16 c]) (fun B d C e => #[.int .i64 5, .int .i64 3, .int .i64 9, .slice B 1 d, .slice C 0 e]) [7, 8, 0, 0, 0, 0, 0, 0, 0, 0, 0, 0, 0, 0, 0, 0] [⟨⟨1, 1, 2, 1, 4⟩, []⟩] [] false tX tY tz tf wc)
  case first =>
    rename_i J0 K0 hJ0 hK0
    exact reg5_any GV.out WI.out HL.out rfl _ _ (fun _ _ _ _ _ _ _ _ _ _ _ _ _ h => hK0 _ _ (hJ0 _ _ ⟨_, _, _, _, _, _, _, _, _, _, _, _, h, rfl⟩))
  case rest =>
    obtain ⟨a22, b22, A22, c22, B22, d22, C22, e22, rfl, rfl, rfl, rfl, ⟨t1, t2, hx, hy, hb⟩, hm, ho⟩ := hcut
    dsimp only at hx hy
    have HB5 := Lib.hid (show Below wq.heap.size wq wc by rw [HL.out]; exact hb)
    obtain ⟨w5n, hwn⟩ : ∃ z : World, z = wc := ⟨_, rfl⟩
    subst hwn
    replace GV := Lib.hid (blk_below GV.out HB5.out (blk_lt GV.out)); replace WI := Lib.hid (WI.out.below HB5.out); replace BB := Lib.hid (BB.out.trans (HB5.out.mono BB.out.size))
    replace H10 := Lib.hid (blk_below H10.out HB5.out (blk_lt H10.out))
    replace H14 := Lib.hid (blk_below H14.out HB5.out (blk_lt H14.out))
    replace H18 := Lib.hid (blk_below H18.out HB5.out (blk_lt H18.out))
    have H22 := Lib.hid hx
    clear hx hy hm ho t1 t2 hb HL
    go_upto_region 12 with fail
    obtain ⟨L, hL⟩ : ∃ l, w5n.heap.size = l := ⟨_, rfl⟩
    have HL := Lib.hid hL
    go_cut [26, 27, 28, 29] from 171 to 178 (fun tX tY tz tf wc => Res L w5n (fun A c => #[.int .i64 2, .int .i64 16, .bool false, .int .u32 0, .int .u32 0, .int .u32 2, .int .u32 0, .int .u32 0, .int .u32 0, .int .u32 0, .int .u32 0, .int .u32 0, .int .u8 0, .slice A 16 c]) (fun B d C e => #[.int .i64 5, .int .i64 3, .int .i64 9, .slice B 1 d, .slice C 0 e]) [7, 8, 0, 0, 0, 0, 0, 0, 0, 0, 0, 0, 0, 0, 0, 0] [⟨⟨1, 1, 2, 1, 4⟩, []⟩] [] false tX tY tz tf wc)
    case first =>
      rename_i J0 K0 hJ0 hK0
      exact reg6_any GV.out WI.out HL.out rfl _ _ (fun _ _ _ _ _ _ _ _ _ _ _ _ _ h => hK0 _ _ (hJ0 _ _ ⟨_, _, _, _, _, _, _, _, _, _, _, _, h, rfl⟩))
    case rest =>
      obtain ⟨a26, b26, A26, c26, B26, d26, C26, e26, rfl, rfl, rfl, rfl, ⟨t1, t2, hx, hy, hb⟩, hm, ho⟩ := hcut
      dsimp only at hx hy
      have HB6 := Lib.hid (show Below w5n.heap.size w5n wc by rw [HL.out]; exact hb)
      obtain ⟨w6n, hwn⟩ : ∃ z : World, z = wc := ⟨_, rfl⟩
      subst hwn
      replace GV := Lib.hid (blk_below GV.out HB6.out (blk_lt GV.out)); replace WI := Lib.hid (WI.out.below HB6.out); replace BB := Lib.hid (BB.out.trans (HB6.out.mono BB.out.size))
      replace H10 := Lib.hid (blk_below H10.out HB6.out (blk_lt H10.out))
      replace H14 := Lib.hid (blk_below H14.out HB6.out (blk_lt H14.out))
      replace H18 := Lib.hid (blk_below H18.out HB6.out (blk_lt H18.out))
      replace H22 := Lib.hid (blk_below H22.out HB6.out (blk_lt H22.out))
      have H26 := Lib.hid hx
      clear hx hy hm ho t1 t2 hb HL
      go_upto_region 13 with fail
      obtain ⟨L, hL⟩ : ∃ l, w6n.heap.size = l := ⟨_, rfl⟩
      have HL := Lib.hid hL
      go_cut [30, 31, 32, 33] from 179 to 186 (fun tX tY tz tf wc => Res L w6n (fun A c => #[.int .i64 2, .int .i64 16, .bool false, .int .u32 5, .int .u32 3, .int .u32 2, .int .u32 0, .int .u32 0, .int .u32 0, .int .u32 0, .int .u32 0, .int .u32 0, .int .u8 0, .slice A 16 c]) (fun B d C e => #[.int .i64 5, .int .i64 3, .int .i64 9, .slice B 1 d, .slice C 0 e]) [7, 8, 0, 0, 0, 0, 0, 0, 0, 0, 0, 0, 0, 0, 0, 0] [⟨⟨1, 1, 2, 1, 4⟩, []⟩] [] false tX tY tz tf wc)
      case first =>
        rename_i J0 K0 hJ0 hK0
        exact reg7_any GV.out WI.out HL.out rfl _ _ (fun _ _ _ _ _ _ _ _ _ _ _ _ _ h => hK0 _ _ (hJ0 _ _ ⟨_, _, _, _, _, _, _, _, _, _, _, _, h, rfl⟩))
      case rest =>
        obtain ⟨a30, b30, A30, c30, B30, d30, C30, e30, rfl, rfl, rfl, rfl, ⟨t1, t2, hx, hy, hb⟩, hm, ho⟩ := hcut
        dsimp only at hx hy
        have HB7 := Lib.hid (show Below w6n.heap.size w6n wc by rw [HL.out]; exact hb)
        obtain ⟨w7n, hwn⟩ : ∃ z : World, z = wc := ⟨_, rfl⟩
        subst hwn
        replace GV := Lib.hid (blk_below GV.out HB7.out (blk_lt GV.out)); replace WI := Lib.hid (WI.out.below HB7.out); replace BB := Lib.hid (BB.out.trans (HB7.out.mono BB.out.size))
        replace H10 := Lib.hid (blk_below H10.out HB7.out (blk_lt H10.out))
        replace H14 := Lib.hid (blk_below H14.out HB7.out (blk_lt H14.out))
        replace H18 := Lib.hid (blk_below H18.out HB7.out (blk_lt H18.out))
        replace H22 := Lib.hid (blk_below H22.out HB7.out (blk_lt H22.out))
        replace H26 := Lib.hid (blk_below H26.out HB7.out (blk_lt H26.out))
        have H30 := Lib.hid hx
        clear hx hy hm ho t1 t2 hb HL
        rename_i K0 hK0
        refine hK0 _ _ ?_
        exact awake8_any BB.out GV.out WI.out H10.out H14.out H18.out H22.out H26.out H30.out rfl
set_option linter.unusedSimpArgs false in
set_option maxRecDepth 100000 in
theorem awake5_any {w0 wq : World} (hB : Below w0.heap.size w0 wq) {gw gq : Nat} (hV : wq.heap[gw]? = some (.cells #[.int .i64 5, .int .i64 3, .int .i64 9, .slice (some ⟨gq, 0, none⟩) 1 1, .slice none 0 0] 37 (0, 0))) (hW : WIn wq (some ⟨gq, 0, none⟩) 1 [⟨⟨1, 1, 2, 1, 4⟩, []⟩] none 0 []) {a10 : Nat} {A10 : Option Addr} {c10 : Nat} (h10 : wq.heap[a10]? = some (.cells #[.int .i64 2, .int .i64 16, .bool false, .int .u32 1, .int .u32 0, .int .u32 2, .int .u32 0, .int .u32 0, .int .u32 0, .int .u32 0, .int .u32 0, .int .u32 0, .int .u8 4, .slice A10 16 c10] 26 (0, 0))) {a14 : Nat} {A14 : Option Addr} {c14 : Nat} (h14 : wq.heap[a14]? = some (.cells #[.int .i64 1, .int .i64 16, .bool false, .int .u32 1, .int .u32 0, .int .u32 5, .int .u32 0, .int .u32 0, .int .u32 0, .int .u32 0, .int .u32 0, .int .u32 0, .int .u8 4, .slice A14 16 c14] 26 (0, 0))) {a18 : Nat} {A18 : Option Addr} {c18 : Nat} (h18 : wq.heap[a18]? = some (.cells #[.int .i64 1, .int .i64 16, .bool false, .int .u32 1, .int .u32 0, .int .u32 5, .int .u32 0, .int .u32 0, .int .u32 0, .int .u32 0, .int .u32 0, .int .u32 0, .int .u8 4, .slice A18 16 c18] 26 (0, 0))) {tm : Array Value} (htm : tm = #[tm.getD 0 undef, .pointer (some ⟨gw, 0, none⟩), tm.getD 2 undef, tm.getD 3 undef, tm.getD 4 undef, tm.getD 5 undef, tm.getD 6 undef, tm.getD 7 undef, tm.getD 8 undef, tm.getD 9 undef, .pointer (some ⟨a10, 0, none⟩), tm.getD 11 undef, tm.getD 12 undef, tm.getD 13 undef, .pointer (some ⟨a14, 0, none⟩), tm.getD 15 undef, tm.getD 16 undef, tm.getD 17 undef, .pointer (some ⟨a18, 0, none⟩), tm.getD 19 undef, tm.getD 20 undef, tm.getD 21 undef, tm.getD 22 undef, tm.getD 23 undef, tm.getD 24 undef, tm.getD 25 undef, tm.getD 26 undef, tm.getD 27 undef, tm.getD 28 undef, tm.getD 29 undef, tm.getD 30 undef, tm.getD 31 undef, tm.getD 32 undef, tm.getD 33 undef, tm.getD 34 undef, tm.getD 35 undef, tm.getD 36 undef, tm.getD 37 undef, tm.getD 38 undef, tm.getD 39 undef, tm.getD 40 undef, tm.getD 41 undef, tm.getD 42 undef, tm.getD 43 undef, tm.getD 44 undef, tm.getD 45 undef, tm.getD 46 undef, tm.getD 47 undef, tm.getD 48 undef, tm.getD 49 undef, tm.getD 50 undef, tm.getD 51 undef, tm.getD 52 undef, tm.getD 53 undef, tm.getD 54 undef, tm.getD 55 undef, tm.getD 56 undef, tm.getD 57 undef, tm.getD 58 undef, tm.getD 59 undef, tm.getD 60 undef, tm.getD 61 undef, tm.getD 62 undef, tm.getD 63 undef, tm.getD 64 undef, tm.getD 65 undef, tm.getD 66 undef, tm.getD 67 undef, tm.getD 68 undef, tm.getD 69 undef, tm.getD 70 undef, tm.getD 71 undef, tm.getD 72 undef, tm.getD 73 undef, tm.getD 74 undef, tm.getD 75 undef, tm.getD 76 undef, tm.getD 77 undef, tm.getD 78 undef, tm.getD 79 undef, tm.getD 80 undef, tm.getD 81 undef, tm.getD 82 undef, tm.getD 83 undef, tm.getD 84 undef, tm.getD 85 undef, tm.getD 86 undef, tm.getD 87 undef, tm.getD 88 undef, tm.getD 89 undef, tm.getD 90 undef, tm.getD 91 undef, tm.getD 92 undef, tm.getD 93 undef, tm.getD 94 undef, tm.getD 95 undef, tm.getD 96 undef, tm.getD 97 undef, tm.getD 98 undef, tm.getD 99 undef, tm.getD 100 undef, tm.getD 101 undef, tm.getD 102 undef, tm.getD 103 undef, tm.getD 104 undef, tm.getD 105 undef, tm.getD 106 undef, tm.getD 107 undef, tm.getD 108 undef, tm.getD 109 undef, tm.getD 110 undef, tm.getD 111 undef, tm.getD 112 undef, tm.getD 113 undef, tm.getD 114 undef, tm.getD 115 undef, tm.getD 116 undef, tm.getD 117 undef, tm.getD 118 undef, tm.getD 119 undef, tm.getD 120 undef, tm.getD 121 undef, tm.getD 122 undef, tm.getD 123 undef, tm.getD 124 undef, tm.getD 125 undef, tm.getD 126 undef, tm.getD 127 undef, tm.getD 128 undef, tm.getD 129 undef, tm.getD 130 undef, tm.getD 131 undef, tm.getD 132 undef, tm.getD 133 undef, tm.getD 134 undef, tm.getD 135 undef, tm.getD 136 undef, tm.getD 137 undef, tm.getD 138 undef, tm.getD 139 undef, tm.getD 140 undef, tm.getD 141 undef, tm.getD 142 undef, tm.getD 143 undef, tm.getD 144 undef, tm.getD 145 undef, tm.getD 146 undef, tm.getD 147 undef, tm.getD 148 undef, tm.getD 149 undef, tm.getD 150 undef, tm.getD 151 undef, tm.getD 152 undef, tm.getD 153 undef, tm.getD 154 undef, tm.getD 155 undef, tm.getD 156 undef, tm.getD 157 undef, tm.getD 158 undef, tm.getD 159 undef, tm.getD 160 undef, tm.getD 161 undef, tm.getD 162 undef, tm.getD 163 undef, tm.getD 164 undef, tm.getD 165 undef, tm.getD 166 undef, tm.getD 167 undef, tm.getD 168 undef, tm.getD 169 undef, tm.getD 170 undef, tm.getD 171 undef, tm.getD 172 undef, tm.getD 173 undef, tm.getD 174 undef, tm.getD 175 undef, tm.getD 176 undef, tm.getD 177 undef, tm.getD 178 undef, tm.getD 179 undef, tm.getD 180 undef, tm.getD 181 undef, tm.getD 182 undef, tm.getD 183 undef, tm.getD 184 undef, tm.getD 185 undef, tm.getD 186 undef, tm.getD 187 undef, tm.getD 188 undef, tm.getD 189 undef, tm.getD 190 undef, tm.getD 191 undef, tm.getD 192 undef, tm.getD 193 undef, tm.getD 194 undef, tm.getD 195 undef, tm.getD 196 undef, tm.getD 197 undef, tm.getD 198 undef, tm.getD 199 undef, tm.getD 200 undef, tm.getD 201 undef, tm.getD 202 undef, tm.getD 203 undef, tm.getD 204 undef, tm.getD 205 undef, tm.getD 206 undef, tm.getD 207 undef, tm.getD 208 undef, tm.getD 209 undef, tm.getD 210 undef, tm.getD 211 undef, tm.getD 212 undef, tm.getD 213 undef, tm.getD 214 undef, tm.getD 215 undef, tm.getD 216 undef, tm.getD 217 undef, tm.getD 218 undef, tm.getD 219 undef, tm.getD 220 undef, tm.getD 221 undef, tm.getD 222 undef, tm.getD 223 undef, tm.getD 224 undef, tm.getD 225 undef, tm.getD 226 undef, tm.getD 227 undef, tm.getD 228 undef, tm.getD 229 undef, tm.getD 230 undef, tm.getD 231 undef, tm.getD 232 undef, tm.getD 233 undef, tm.getD 234 undef, tm.getD 235 undef, tm.getD 236 undef, tm.getD 237 undef, tm.getD 238 undef, tm.getD 239 undef, tm.getD 240 undef, tm.getD 241 undef, tm.getD 242 undef, tm.getD 243 undef, tm.getD 244 undef, tm.getD 245 undef, tm.getD 246 undef, tm.getD 247 undef, tm.getD 248 undef, tm.getD 249 undef, tm.getD 250 undef, tm.getD 251 undef, tm.getD 252 undef, tm.getD 253 undef, tm.getD 254 undef, tm.getD 255 undef, tm.getD 256 undef, tm.getD 257 undef, tm.getD 258 undef, tm.getD 259 undef, tm.getD 260 undef, tm.getD 261 undef, tm.getD 262 undef, tm.getD 263 undef, tm.getD 264 undef, tm.getD 265 undef, tm.getD 266 undef, tm.getD 267 undef, tm.getD 268 undef, tm.getD 269 undef, tm.getD 270 undef, tm.getD 271 undef, tm.getD 272 undef, tm.getD 273 undef, tm.getD 274 undef, tm.getD 275 undef, tm.getD 276 undef, tm.getD 277 undef, tm.getD 278 undef, tm.getD 279 undef, tm.getD 280 undef, tm.getD 281 undef]) :
    Code.wp Try.prog (rest 9 (Try.f7.body.getD .skip)) (bodyPost Try.prog Try.f7 fun e w' => e = .returned (.bool true) ∧ Below w0.heap.size w0 w') { tmps := tm, defers := [] } wq := by
  rw [htm]
  exact awake5 hB hV hW h10 h14 h18 (fun j => tm.getD j undef)
end Go.Proofs.Ythkkmnckidfmkaa.hy
