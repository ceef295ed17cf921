/- Fill and Phys of both, one answer each; bytes written over; no condition. -/
import Derived.Test.YtjliaojanmbicaaRows
import Derived.Test.YtjliaojanmbicaaMemR
namespace Go.Proofs.Ytjliaojanmbicaa.phys
open Go Go.ChangeShapes Go.WideShapes Go.ChangeAt Go.RowKit Go.Proofs.Ytjliaojanmbicaa.rows Go.Proofs.Ytjliaojanmbicaa.reg
/-- What Fill answers. -/
def Fil (size : Int) (im bs : List UInt8) (E : Int) : Prop :=
  ((size < 0 ∨ 512 < size ∨ size < (im.length : Int)) ∧ bs = [] ∧ E = 2) ∨ (¬ (size < 0 ∨ 512 < size ∨ size < (im.length : Int)) ∧ bs = fillL size.toNat im ∧ E = 0)
theorem Fil.one {size E F : Int} {im bs cs : List UInt8} (h : Fil size im bs E) (h2 : Fil size im cs F) : bs = cs ∧ E = F := by
  rcases h with ⟨a, rfl, rfl⟩ | ⟨a, rfl, rfl⟩ <;> rcases h2 with ⟨b, rfl, rfl⟩ | ⟨b, rfl, rfl⟩
  · exact ⟨rfl, rfl⟩
  · exact absurd a b
  · exact absurd b a
  · exact ⟨rfl, rfl⟩
theorem Fil.len {size E : Int} {im bs : List UInt8} (h : Fil size im bs E) : bs.length ≤ 512 := by
  rcases h with ⟨_, rfl, _⟩ | ⟨a, rfl, _⟩
  · simp
  · rw [fillL_length (by omega)]; omega
theorem fill_any (size : Int) (im : List UInt8) (A : Option Addr) (r c : Nat) (hr : im.length = r) (w : World) (h : Rd w A (bcs im)) : Calls Try.prog 25 #[.int .i64 size, .slice A r c] w fun e w' => ∃ A2 c2 bs E, e = .returned (.tuple #[.slice A2 bs.length c2, .int .i64 E]) ∧ Fil size im bs E ∧ Rd w' A2 (bcs bs) ∧ Below w.heap.size w w' := by
  by_cases h0 : size < 0
  · exact (fill_neg size A r c h0 w).mono fun e w' ⟨he, hb⟩ => ⟨none, 0, [], 2, he, .inl ⟨.inl h0, rfl, rfl⟩, Rd.nil, hb⟩
  by_cases h1 : 512 < size
  · exact (fill_big size A r c (by omega) h1 w).mono fun e w' ⟨he, hb⟩ => ⟨none, 0, [], 2, he, .inl ⟨.inr (.inl h1), rfl, rfl⟩, Rd.nil, hb⟩
  by_cases h2 : size < (r : Int)
  · exact (fill_sml size A r c (by omega) (by omega) h2 w).mono fun e w' ⟨he, hb⟩ => ⟨none, 0, [], 2, he, .inl ⟨.inr (.inr (by rw [hr]; exact h2)), rfl, rfl⟩, Rd.nil, hb⟩
  obtain ⟨n, rfl⟩ : ∃ n : Nat, size = (n : Int) := ⟨size.toNat, by omega⟩
  refine (fill_ok n (by omega) im A r c hr (by omega) w h).mono fun e w' ⟨he, hg, hb⟩ => ⟨some ⟨w.heap.size, 0, none⟩, n, fillL n im, 0, by rw [he, fillL_length (by omega)], .inr ⟨by rw [hr]; omega, by simp, rfl⟩, .inr ⟨_, 0, rfl, blk_lt hg, fun j u hu => ?_⟩, hb⟩
  rw [blk_cell hg, Nat.zero_add]
  simpa using hu
theorem rfill_any (size : Int) (im : List UInt8) (A : Option Addr) (r c : Nat) (hr : im.length = r) (w : World) (h : Rd w A (bcs im)) : Calls Try.prog 22 #[.int .i64 size, .slice A r c] w fun e w' => ∃ v bs E, e = .returned (.tuple #[v, .int .i64 E]) ∧ Fil size im bs E ∧ MsgAt w.heap.size w'.heap.size w' v bs ∧ Below w.heap.size w w' := by
  have nl : ∀ (lo hi : Nat) (W : World), MsgAt lo hi W (.slice none 0 0) [] := fun _ _ _ => ⟨none, 0, rfl, Nat.le_refl _, fun _ => rfl, .inr rfl, RowIn.nil⟩
  by_cases h0 : size < 0
  · exact (rfill_neg size A r c h0 w).mono fun e w' ⟨he, hb⟩ => ⟨_, [], 2, he, .inl ⟨.inl h0, rfl, rfl⟩, nl _ _ _, hb⟩
  by_cases h1 : 512 < size
  · exact (rfill_big size A r c (by omega) h1 w).mono fun e w' ⟨he, hb⟩ => ⟨_, [], 2, he, .inl ⟨.inr (.inl h1), rfl, rfl⟩, nl _ _ _, hb⟩
  by_cases h2 : size < (r : Int)
  · exact (rfill_sml size A r c (by omega) (by omega) h2 w).mono fun e w' ⟨he, hb⟩ => ⟨_, [], 2, he, .inl ⟨.inr (.inr (by rw [hr]; exact h2)), rfl, rfl⟩, nl _ _ _, hb⟩
  obtain ⟨n, rfl⟩ : ∃ n : Nat, size = (n : Int) := ⟨size.toNat, by omega⟩
  exact (rfill_ok n (by omega) im A r c hr (by omega) w h).mono fun e w' ⟨v, he, A2, c2, hv, k1, k2, k3, k4, hb⟩ => ⟨v, fillL n im, 0, he, .inr ⟨by rw [hr]; omega, by simp, rfl⟩, ⟨A2, c2, hv, k1, k2, k3, k4⟩, hb⟩
/-- What Phys answers. -/
def Phy (l : List Reg) (ms : List Msg) (bs : List UInt8) (E : Int) : Prop :=
  (¬ (l.length = ms.length ∧ Fits l ms l.length) ∧ bs = [] ∧ E = 2) ∨ ((l.length = ms.length ∧ Fits l ms l.length) ∧ allE l = 121 ∧ bs = [] ∧ E = 121) ∨ ((l.length = ms.length ∧ Fits l ms l.length) ∧ allE l = 0 ∧ bs = laid l ms l.length ∧ E = 0)
theorem Phy.one {l : List Reg} {ms : List Msg} {bs cs : List UInt8} {E F : Int} (h : Phy l ms bs E) (h2 : Phy l ms cs F) : bs = cs ∧ E = F := by
  rcases h with ⟨a, rfl, rfl⟩ | ⟨a, a2, rfl, rfl⟩ | ⟨a, a2, rfl, rfl⟩ <;> rcases h2 with ⟨b, rfl, rfl⟩ | ⟨b, b2, rfl, rfl⟩ | ⟨b, b2, rfl, rfl⟩ <;> first | exact ⟨rfl, rfl⟩ | exact absurd a b | exact absurd b a | (exfalso; rw [a2] at b2; cases b2)
theorem POut.any {l : List Reg} {ms : List Msg} {w w' : World} {e : Ending} (h : POut l ms w e w') : ∃ A c bs E, e = .returned (.tuple #[.slice A bs.length c, .int .i64 E]) ∧ Phy l ms bs E ∧ Rd w' A (bcs bs) ∧ Below w.heap.size w w' := by
  obtain ⟨hb, ⟨h1, rfl⟩ | ⟨h1, h2, h3, rfl⟩ | ⟨h1, h2, h3, g, rfl, h4, h5⟩⟩ := h
  · exact ⟨none, 0, [], 2, rfl, .inl ⟨h1, rfl, rfl⟩, Rd.nil, hb⟩
  · exact ⟨none, 0, [], 121, rfl, .inr (.inl ⟨⟨h1, h2⟩, h3, rfl, rfl⟩), Rd.nil, hb⟩
  · refine ⟨some ⟨g, 0, none⟩, 4096, laid l ms l.length, 0, by rw [laid_length h1 h2 _ (Nat.le_refl _)], .inr (.inr ⟨⟨h1, h2⟩, h3, rfl, rfl⟩), .inr ⟨g, 0, rfl, blk_lt h5, fun j u hu => ?_⟩, hb⟩
    rw [blk_cell h5, Nat.zero_add]
    simpa using hu
/-- A byte of the call's own written over. -/
theorem MsgAt.set {lo hi g k c : Nat} {w : World} {l : Msg} (h : MsgAt lo hi w (.slice (some ⟨g, 0, none⟩) l.length c) l) (hk : k < l.length) (z : UInt8) : MsgAt lo hi (w.setCell ⟨g, k, none⟩ (.int .u8 (z.toNat : Int))) (.slice (some ⟨g, 0, none⟩) l.length c) (l.set k z) ∧ lo ≤ g ∧ (∃ u, w.cell? ⟨g, k, none⟩ = some u) ∧ w.frozen? ⟨g, k, none⟩ = false := by
  obtain ⟨A, c', e, h1, h2, h3, h4⟩ := h
  injection e with eA _ ec
  subst eA; subst ec
  rcases h4 with h4 | ⟨g', off, cs, e, k1, k2, k3, k4⟩
  · exfalso
    have : l.length = 0 := by rw [← bcs_length, h4]; rfl
    omega
  · injection e with e; injection e with e1 e2; subst e1; subst e2
    have hkc : ∃ u, cs[k]? = some u := by
      have := k4 k _ (bcs_at (List.getElem?_eq_getElem hk))
      rw [Nat.zero_add] at this
      exact ⟨_, this⟩
    obtain ⟨u, hu⟩ := hkc
    refine ⟨⟨_, c, by rw [List.length_set], by rw [List.length_set]; exact h1, (fun h => by cases h), .inl ⟨g, rfl⟩, .inr ⟨g, 0, cs.setIfInBounds k (.int .u8 (z.toNat : Int)), rfl, k1, k2, blk_set k3 _ _, fun j v hv => ?_⟩⟩, k1, ⟨u, by rw [blk_cell k3]; exact hu⟩, blk_frozen k3 k⟩
    rw [Nat.zero_add, Array.getElem?_setIfInBounds]
    have hv' : ((l.set k z).map fun x => Value.int .u8 (x.toNat : Int))[j]? = some v := hv
    rw [List.getElem?_map, List.getElem?_set] at hv'
    by_cases hkj : k = j
    · subst hkj
      rw [if_pos rfl, if_pos (by omega)] at hv'
      rw [if_pos rfl, if_pos (Array.getElem?_eq_some_iff.1 hu).1]
      simpa using hv'
    · rw [if_neg hkj] at hv' ⊢
      have h5 := k4 j v (by show (l.map fun x => Value.int .u8 (x.toNat : Int))[j]? = some v; rw [List.getElem?_map]; exact hv')
      rwa [Nat.zero_add] at h5
theorem u8_of (z : Int) : ∃ y : UInt8, IntKind.u8.wrap z = (y.toNat : Int) := by
  refine ⟨UInt8.ofNat (IntKind.u8.wrap z).toNat, ?_⟩
  have h : IntKind.u8.wrap z = z % 256 := by simp [IntKind.wrap, IntKind.bits, IntKind.signed]
  rw [h]
  simp
  omega
end Go.Proofs.Ytjliaojanmbicaa.phys
