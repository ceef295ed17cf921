/- Channels: a list of channels, both ways; no condition. -/
import Derived.Test.YtlmecndldclnnaaRows
import Derived.Test.YtlmecndldclnnaaChB
namespace Go.Proofs.Ytlmecndldclnnaa.chan
open Go Go.ChangeShapes Go.WideShapes Go.ChangeAt Go.RowKit Go.Proofs.Ytlmecndldclnnaa.rows
def chCells (l : List Ch) : List Value := l.flatMap Ch.cells
theorem chCells_length (l : List Ch) : (chCells l).length = l.length * 5 := by
  induction l with
  | nil => rfl
  | cons x l ih => simp only [chCells, List.flatMap_cons, List.length_append, List.length_cons, Ch.cells, List.length_nil] at ih ⊢; omega
theorem chCells_at (l : List Ch) (k : Nat) (p : Ch) (h : l[k]? = some p) : (chCells l)[k * 5]? = some (.int .i64 p.id) ∧ (chCells l)[k * 5 + 1]? = some (.int .i64 p.fr) ∧ (chCells l)[k * 5 + 2]? = some (.int .i64 p.to) ∧ (chCells l)[k * 5 + 3]? = some (.int .i64 p.cap) ∧ (chCells l)[k * 5 + 4]? = some (.int .i64 p.sz) := by
  induction l generalizing k with
  | nil => simp at h
  | cons x l ih =>
    cases k with
    | zero => simp at h; subst h; simp [chCells, Ch.cells]
    | succ k =>
      have h' : l[k]? = some p := by simpa using h
      have := ih k h'
      simp only [chCells, List.flatMap_cons] at this ⊢
      rw [show (k + 1) * 5 = k * 5 + 5 by omega, show k * 5 + 5 + 1 = (k * 5 + 1) + 5 by omega, show k * 5 + 5 + 2 = (k * 5 + 2) + 5 by omega, show k * 5 + 5 + 3 = (k * 5 + 3) + 5 by omega, show k * 5 + 5 + 4 = (k * 5 + 4) + 5 by omega]
      rw [List.getElem?_append_right (by simp [Ch.cells]), List.getElem?_append_right (by simp [Ch.cells]), List.getElem?_append_right (by simp [Ch.cells]), List.getElem?_append_right (by simp [Ch.cells]), List.getElem?_append_right (by simp [Ch.cells])]
      simpa [Ch.cells] using this
/-- What is told of a list of channels. -/
def AllIs (l : List Ch) (z : Int) : Prop :=
  ((∃ x ∈ l, mayC x = false) ∧ z = 2) ∨ ((∀ x ∈ l, mayC x = true) ∧ (∃ k a b, l[k]? = some a ∧ l[k + 1]? = some b ∧ b.id ≤ a.id) ∧ z = 100) ∨
    ((∀ x ∈ l, mayC x = true) ∧ (∀ k a b, l[k]? = some a → l[k + 1]? = some b → ¬ b.id ≤ a.id) ∧ z = 0)
theorem AllIs.one {l : List Ch} {y z : Int} (h : AllIs l y) (h2 : AllIs l z) : y = z := by
  rcases h with ⟨⟨x, hx, hf⟩, e⟩ | ⟨ha, ⟨k, a, b, h1, h2', h3⟩, e⟩ | ⟨ha, hn, e⟩ <;> rcases h2 with ⟨⟨x', hx', hf'⟩, e'⟩ | ⟨ha', ⟨k', a', b', h1', h2'', h3'⟩, e'⟩ | ⟨ha', hn', e'⟩ <;> first | (rw [e, e']; done) | (exfalso; have := ha' x hx; rw [hf] at this; cases this) | (exfalso; have := ha x' hx'; rw [hf'] at this; cases this) | exact absurd h3 (hn' k a b h1 h2') | exact absurd h3' (hn k' a' b' h1' h2'')
theorem below_alloc5 {w w' : World} {o : Obj} (h : Below (w.alloc o).heap.size (w.alloc o) w') : Below w.heap.size w w' :=
  ((Below.refl w.heap.size w).alloc (Nat.le_refl _) o).trans (h.mono (by simp))
set_option maxRecDepth 100000 in
set_option maxHeartbeats 4000000 in
theorem all (l : List Ch) (A : Option Addr) (n c : Nat) (hn : l.length = n) (h63 : n ≤ 1000000) (w : World) (h : Rd w A (chCells l)) : Calls Try.prog 23 #[.slice A n c] w fun e w' => ∃ z, e = .returned (.int .i64 z) ∧ AllIs l z ∧ Below w.heap.size w w' := by
  have h63' : (n : Int) ≤ 1000000 := by omega
  have H := Lib.hid h; have HN := Lib.hid hn
  clear h hn
  go_enter Try.func23, Try.ntmps23
  go_wp2
  go_loopw [8] (fun i wr => ∃ k : Nat, k ≤ n ∧ i = .int .i64 k ∧ (∀ x ∈ l.take k, mayC x = true) ∧ Below w.heap.size w wr) (fun i _ => n - (intOf i).toNat)
  case atStart => exact ⟨0, Nat.zero_le _, rfl, (fun x hx => by simp at hx), Below.refl _ _⟩
  case round =>
    obtain ⟨k, hk, rfl, hall, hb⟩ := hrel
    have HB := Lib.hid hb; have HA := Lib.hid hall; have hz := hb.size
    clear hb hall
    by_cases hkl : k < n
    · have hki : (k : Int) < (n : Int) := by omega
      have hk0 : (0 : Int) ≤ (k : Int) := by omega
      obtain ⟨b, off, rfl, hlt⟩ := H.out.addr (by rw [chCells_length, HN.out]; omega)
      obtain ⟨⟨x0, x1, x2, x3, x4⟩, hp⟩ : ∃ p, l[k]? = some p := ⟨l[k]'(by rw [HN.out]; exact hkl), List.getElem?_eq_getElem (by rw [HN.out]; exact hkl)⟩
      have hw := chCells_at l k _ hp
      have hr := H.out.below HB.out
      have c0 := hr.cell hw.1; have c1 := hr.cell hw.2.1; have c2 := hr.cell hw.2.2.1; have c3 := hr.cell hw.2.2.2.1; have c4 := hr.cell hw.2.2.2.2
      rw [← Nat.add_assoc] at c1 c2 c3 c4
      simp only at c0 c1 c2 c3 c4
      have T := may ⟨x0, x1, x2, x3, x4⟩
      dsimp only [Ch.cells] at T
      have HP := Lib.hid hp; have HMEM := Lib.hid (List.mem_of_getElem? hp)
      clear hw hp hr
      cases hm : mayC ⟨x0, x1, x2, x3, x4⟩ with
      | true =>
        simp only [hm] at T
        have HT := Lib.hid T; have HM := Lib.hid hm; clear T hm
        go_wp2_with fail
        refine (HT.out _).mono ?_
        rintro e w1 ⟨rfl, b1⟩
        have B1 := Lib.hid (HB.out.trans ((below_alloc5 b1).mono hz)); clear b1
        go_wp2_with fail
        go_roundw
        case rel =>
          refine ⟨k + 1, by omega, by go_num, fun x hx => ?_, B1.out⟩
          rw [List.take_add_one, HP.out] at hx
          rcases List.mem_append.1 hx with hx | hx
          · exact HA.out x hx
          · simp at hx; subst hx; exact HM.out
        case measure => simp [intOf]; omega
      | false =>
        simp only [hm] at T
        have HT := Lib.hid T; have HM := Lib.hid hm; clear T hm
        go_wp2_with fail
        refine (HT.out _).mono ?_
        rintro e w1 ⟨rfl, b1⟩
        have B1 := Lib.hid (HB.out.trans ((below_alloc5 b1).mono hz)); clear b1
        go_wp2
        go_ret
        exact ⟨_, rfl, Or.inl ⟨⟨_, HMEM.out, HM.out⟩, rfl⟩, B1.out⟩
    · obtain rfl : k = n := by omega
      have hall : ∀ x ∈ l, mayC x = true := by
        have := HA.out; rw [List.take_of_length_le (by rw [HN.out]; exact Nat.le_refl _)] at this; exact this
      have HALL := Lib.hid hall
      clear hall
      go_wp2_with fail
      clear hz
      obtain ⟨w9, hw9⟩ : ∃ w9 : World, w9 = wr := ⟨_, rfl⟩
      rw [← hw9] at HB ⊢
      clear hw9
      go_loopw [5] (fun i wr => ∃ m : Nat, (m ≤ k ∨ m = 1) ∧ 1 ≤ m ∧ i = .int .i64 m ∧ (∀ j a b, j + 1 < m → l[j]? = some a → l[j + 1]? = some b → ¬ b.id ≤ a.id) ∧ Below w.heap.size w wr) (fun i _ => k - (intOf i).toNat)
      case atStart => exact ⟨1, Or.inr rfl, Nat.le_refl _, rfl, (fun j a b h => by omega), HB.out⟩
      case round =>
        obtain ⟨m, hm, hm1, rfl, hap, hb2⟩ := hrel
        have HP2 := Lib.hid hap; have HB2 := Lib.hid hb2
        clear hap hb2
        by_cases hml : m < k
        · have hmi : (m : Int) < (k : Int) := by omega
          have hm0 : (0 : Int) ≤ (m : Int) := by omega
          obtain ⟨q, rfl⟩ : ∃ q, m = q + 1 := ⟨m - 1, by omega⟩
          have hq0 : (0 : Int) ≤ (q : Int) := by omega
          have hqk : (q : Int) < (k : Int) := by omega
          have hwq : IntKind.i64.wrap (((q + 1 : Nat) : Int) - 1) = (q : Int) := by rw [IntWalk.i64_in _ (by omega)]; omega
          obtain ⟨⟨x0, x1, x2, x3, x4⟩, hp⟩ : ∃ p, l[q + 1]? = some p := ⟨l[q + 1]'(by rw [HN.out]; omega), List.getElem?_eq_getElem (by rw [HN.out]; omega)⟩
          obtain ⟨⟨y0, y1, y2, y3, y4⟩, hp2⟩ : ∃ p, l[q]? = some p := ⟨l[q]'(by rw [HN.out]; omega), List.getElem?_eq_getElem (by rw [HN.out]; omega)⟩
          obtain ⟨b, off, rfl, hlt⟩ := H.out.addr (by rw [chCells_length, HN.out]; omega)
          have hr := H.out.below HB2.out
          have c0 := hr.cell (chCells_at l (q + 1) _ hp).1
          have c1 := hr.cell (chCells_at l q _ hp2).1
          simp only at c0 c1
          have d0 : ∀ wx : Ext wr.heap.size wr, wx.world.cell? ⟨b, off + (q + 1) * 5, none⟩ = some (.int .i64 x0) := fun wx => (wx.cell _ _ (World.block_lt_of_cell? wr _ c0)).trans c0
          have d1 : ∀ wx : Ext wr.heap.size wr, wx.world.cell? ⟨b, off + q * 5, none⟩ = some (.int .i64 y0) := fun wx => (wx.cell _ _ (World.block_lt_of_cell? wr _ c1)).trans c1
          have HP := Lib.hid hp; have HPQ := Lib.hid hp2
          clear hp hp2 hr c0 c1
          by_cases hle : x0 ≤ y0
          · have HLE := Lib.hid (show (∃ k a b, l[k]? = some a ∧ l[k + 1]? = some b ∧ b.id ≤ a.id) from ⟨q, _, _, HPQ.out, HP.out, hle⟩)
            go_wp2_with fail
            refine region_ext (by kernel_rfl) (by kernel_rfl) ?_
            try simp only [List.append_eq, List.cons_append, List.nil_append]
            repeat (go_big_quiet_step (fail))
            refine wpQuiet_nil ?_
            intro v
            go_wp2
            go_ret
            exact ⟨_, rfl, Or.inr (Or.inl ⟨HALL.out, HLE.out, rfl⟩), HB2.out.trans (v.below.mono HB2.out.size)⟩
          · go_wp2_with fail
            refine region_ext (by kernel_rfl) (by kernel_rfl) ?_
            try simp only [List.append_eq, List.cons_append, List.nil_append]
            repeat (go_big_quiet_step (fail))
            refine wpQuiet_nil ?_
            intro v
            go_wp2
            go_roundw
            case rel =>
              refine ⟨q + 1 + 1, by omega, by omega, by go_num, fun j a b' hj e1 e2 => ?_, HB2.out.trans (v.below.mono HB2.out.size)⟩
              by_cases hjq : j = q
              · subst hjq
                rw [HPQ.out] at e1; rw [HP.out] at e2
                injection e1 with e1; injection e2 with e2; subst e1; subst e2
                show ¬ x0 ≤ y0
                omega
              · have h := HP2.out j a b' (by omega) e1 e2
                omega
            case measure => simp [intOf]; omega
        · have hmi : ¬ (m : Int) < (k : Int) := by omega
          go_wp2_with fail
          go_ret
          exact ⟨_, rfl, Or.inr (Or.inr ⟨HALL.out, fun j a b' e1 e2 => by have h := HP2.out j a b' (by have := (List.getElem?_eq_some_iff.1 e2).1; rw [HN.out] at this; omega) e1 e2; omega, rfl⟩), HB2.out⟩
set_option maxRecDepth 100000 in
set_option maxHeartbeats 4000000 in
theorem rall (l : List Ch) (A : Option Addr) (n c : Nat) (hn : l.length = n) (h63 : n ≤ 1000000) (w : World) (h : Rd w A (chCells l)) : Calls Try.prog 24 #[.slice A n c] w fun e w' => ∃ z, e = .returned (.int .i64 z) ∧ AllIs l z ∧ Below w.heap.size w w' := by
  have h63' : (n : Int) ≤ 1000000 := by omega
  have H := Lib.hid h; have HN := Lib.hid hn
  clear h hn
  go_enter Try.func24, Try.ntmps24
  go_wp2
  go_loopw [3] (fun i wr => ∃ k : Nat, k ≤ n ∧ i = .int .i64 k ∧ (∀ x ∈ l.take k, mayC x = true) ∧ Below w.heap.size w wr) (fun i _ => n - (intOf i).toNat)
  case atStart => exact ⟨0, Nat.zero_le _, rfl, (fun x hx => by simp at hx), Below.refl _ _⟩
  case round =>
    obtain ⟨k, hk, rfl, hall, hb⟩ := hrel
    have HB := Lib.hid hb; have HA := Lib.hid hall; have hz := hb.size
    clear hb hall
    by_cases hkl : k < n
    · have hki : (k : Int) < (n : Int) := by omega
      have hk0 : (0 : Int) ≤ (k : Int) := by omega
      obtain ⟨b, off, rfl, hlt⟩ := H.out.addr (by rw [chCells_length, HN.out]; omega)
      obtain ⟨⟨x0, x1, x2, x3, x4⟩, hp⟩ : ∃ p, l[k]? = some p := ⟨l[k]'(by rw [HN.out]; exact hkl), List.getElem?_eq_getElem (by rw [HN.out]; exact hkl)⟩
      have hw := chCells_at l k _ hp
      have hr := H.out.below HB.out
      have c0 := hr.cell hw.1; have c1 := hr.cell hw.2.1; have c2 := hr.cell hw.2.2.1; have c3 := hr.cell hw.2.2.2.1; have c4 := hr.cell hw.2.2.2.2
      rw [← Nat.add_assoc] at c1 c2 c3 c4
      simp only at c0 c1 c2 c3 c4
      have T := rmay ⟨x0, x1, x2, x3, x4⟩
      dsimp only [Ch.cells] at T
      have HP := Lib.hid hp; have HMEM := Lib.hid (List.mem_of_getElem? hp)
      clear hw hp hr
      cases hm : mayC ⟨x0, x1, x2, x3, x4⟩ with
      | true =>
        simp only [hm] at T
        have HT := Lib.hid T; have HM := Lib.hid hm; clear T hm
        go_wp2_with fail
        refine (HT.out _).mono ?_
        rintro e w1 ⟨rfl, b1⟩
        have B1 := Lib.hid (HB.out.trans (b1.mono hz)); clear b1
        go_wp2_with fail
        go_roundw
        case rel =>
          refine ⟨k + 1, by omega, by go_num, fun x hx => ?_, B1.out⟩
          rw [List.take_add_one, HP.out] at hx
          rcases List.mem_append.1 hx with hx | hx
          · exact HA.out x hx
          · simp at hx; subst hx; exact HM.out
        case measure => simp [intOf]; omega
      | false =>
        simp only [hm] at T
        have HT := Lib.hid T; have HM := Lib.hid hm; clear T hm
        go_wp2_with fail
        refine (HT.out _).mono ?_
        rintro e w1 ⟨rfl, b1⟩
        have B1 := Lib.hid (HB.out.trans (b1.mono hz)); clear b1
        go_wp2
        go_ret
        exact ⟨_, rfl, Or.inl ⟨⟨_, HMEM.out, HM.out⟩, rfl⟩, B1.out⟩
    · obtain rfl : k = n := by omega
      have hall : ∀ x ∈ l, mayC x = true := by
        have := HA.out; rw [List.take_of_length_le (by rw [HN.out]; exact Nat.le_refl _)] at this; exact this
      have HALL := Lib.hid hall
      clear hall
      go_wp2_with fail
      clear hz
      obtain ⟨w9, hw9⟩ : ∃ w9 : World, w9 = wr := ⟨_, rfl⟩
      rw [← hw9] at HB ⊢
      clear hw9
      go_loopw [4] (fun i wr => ∃ m : Nat, (m ≤ k ∨ m = 1) ∧ 1 ≤ m ∧ i = .int .i64 m ∧ (∀ j a b, j + 1 < m → l[j]? = some a → l[j + 1]? = some b → ¬ b.id ≤ a.id) ∧ Below w.heap.size w wr) (fun i _ => k - (intOf i).toNat)
      case atStart => exact ⟨1, Or.inr rfl, Nat.le_refl _, rfl, (fun j a b h => by omega), HB.out⟩
      case round =>
        obtain ⟨m, hm, hm1, rfl, hap, hb2⟩ := hrel
        have HP2 := Lib.hid hap; have HB2 := Lib.hid hb2
        clear hap hb2
        by_cases hml : m < k
        · have hmi : (m : Int) < (k : Int) := by omega
          have hm0 : (0 : Int) ≤ (m : Int) := by omega
          obtain ⟨q, rfl⟩ : ∃ q, m = q + 1 := ⟨m - 1, by omega⟩
          have hq0 : (0 : Int) ≤ (q : Int) := by omega
          have hqk : (q : Int) < (k : Int) := by omega
          have hwq : IntKind.i64.wrap (((q + 1 : Nat) : Int) - 1) = (q : Int) := by rw [IntWalk.i64_in _ (by omega)]; omega
          obtain ⟨⟨x0, x1, x2, x3, x4⟩, hp⟩ : ∃ p, l[q + 1]? = some p := ⟨l[q + 1]'(by rw [HN.out]; omega), List.getElem?_eq_getElem (by rw [HN.out]; omega)⟩
          obtain ⟨⟨y0, y1, y2, y3, y4⟩, hp2⟩ : ∃ p, l[q]? = some p := ⟨l[q]'(by rw [HN.out]; omega), List.getElem?_eq_getElem (by rw [HN.out]; omega)⟩
          obtain ⟨b, off, rfl, hlt⟩ := H.out.addr (by rw [chCells_length, HN.out]; omega)
          have hr := H.out.below HB2.out
          have c0 := hr.cell (chCells_at l (q + 1) _ hp).1
          have c1 := hr.cell (chCells_at l q _ hp2).1
          simp only at c0 c1
          have d0 : ∀ wx : Ext wr.heap.size wr, wx.world.cell? ⟨b, off + (q + 1) * 5, none⟩ = some (.int .i64 x0) := fun wx => (wx.cell _ _ (World.block_lt_of_cell? wr _ c0)).trans c0
          have d1 : ∀ wx : Ext wr.heap.size wr, wx.world.cell? ⟨b, off + q * 5, none⟩ = some (.int .i64 y0) := fun wx => (wx.cell _ _ (World.block_lt_of_cell? wr _ c1)).trans c1
          have HP := Lib.hid hp; have HPQ := Lib.hid hp2
          clear hp hp2 hr c0 c1
          by_cases hle : x0 ≤ y0
          · have HLE := Lib.hid (show (∃ k a b, l[k]? = some a ∧ l[k + 1]? = some b ∧ b.id ≤ a.id) from ⟨q, _, _, HPQ.out, HP.out, hle⟩)
            go_wp2_with fail
            refine region_ext (by kernel_rfl) (by kernel_rfl) ?_
            try simp only [List.append_eq, List.cons_append, List.nil_append]
            repeat (go_big_quiet_step (fail))
            refine wpQuiet_nil ?_
            intro v
            go_wp2
            go_ret
            exact ⟨_, rfl, Or.inr (Or.inl ⟨HALL.out, HLE.out, rfl⟩), HB2.out.trans (v.below.mono HB2.out.size)⟩
          · go_wp2_with fail
            refine region_ext (by kernel_rfl) (by kernel_rfl) ?_
            try simp only [List.append_eq, List.cons_append, List.nil_append]
            repeat (go_big_quiet_step (fail))
            refine wpQuiet_nil ?_
            intro v
            go_wp2
            go_roundw
            case rel =>
              refine ⟨q + 1 + 1, by omega, by omega, by go_num, fun j a b' hj e1 e2 => ?_, HB2.out.trans (v.below.mono HB2.out.size)⟩
              by_cases hjq : j = q
              · subst hjq
                rw [HPQ.out] at e1; rw [HP.out] at e2
                injection e1 with e1; injection e2 with e2; subst e1; subst e2
                show ¬ x0 ≤ y0
                omega
              · have h := HP2.out j a b' (by omega) e1 e2
                omega
            case measure => simp [intOf]; omega
        · have hmi : ¬ (m : Int) < (k : Int) := by omega
          go_wp2_with fail
          go_ret
          exact ⟨_, rfl, Or.inr (Or.inr ⟨HALL.out, fun j a b' e1 e2 => by have h := HP2.out j a b' (by have := (List.getElem?_eq_some_iff.1 e2).1; rw [HN.out] at this; omega) e1 e2; omega, rfl⟩), HB2.out⟩
end Go.Proofs.Ytlmecndldclnnaa.chan
