/- Regions: the plain laws: who has a byte; how many bytes are somebody's; no condition. -/
import Derived.Test.YtjliaojanmbicaaRegE2
namespace Go.Proofs.Ytjliaojanmbicaa.reg
theorem good_of {l : List Reg} (h : allE l = 0) : l.all mayP = true ∧ ∀ i k, k < i → i < l.length → apartAt l i k = true := by
  unfold allE at h
  split at h
  · rename_i h1
    split at h
    · rename_i h2; exact ⟨h1, (upTo_all_iff l).1 h2⟩
    · omega
  · omega
theorem may_of {l : List Reg} (h : allE l = 0) {p : Reg} (hp : p ∈ l) : mayR p.1 p.2 = true := List.all_eq_true.1 (good_of h).1 p hp
theorem apart_has {a s b t x : Int} (h : apartR a s b t = true) (h1 : hasR a s x = true) (h2 : hasR b t x = true) : False := by
  unfold apartR at h; unfold hasR at h1 h2
  simp only [Bool.and_eq_true, Bool.or_eq_true, decide_eq_true_eq] at h h1 h2
  omega
theorem getD_eq {l : List Reg} {i : Nat} {p : Reg} (h : l[i]? = some p) : l[i]?.getD (0, 0) = p := by rw [h]; rfl
theorem apart_of {l : List Reg} (h : allE l = 0) {i k : Nat} {p q : Reg} (hp : l[i]? = some p) (hq : l[k]? = some q) (hne : i ≠ k) : apartR p.1 p.2 q.1 q.2 = true := by
  have hi := (List.getElem?_eq_some_iff.1 hp).1
  have hk := (List.getElem?_eq_some_iff.1 hq).1
  rcases Nat.lt_or_ge k i with h1 | h1
  · have := (good_of h).2 i k h1 hi
    unfold apartAt apartP at this
    rw [getD_eq hp, getD_eq hq] at this; exact this
  · have := (good_of h).2 k i (by omega) hk
    unfold apartAt apartP at this
    rw [getD_eq hp, getD_eq hq, apart_comm] at this; exact this
theorem holder_has {l : List Reg} (h : allE l = 0) (x : Int) {k : Nat} {p : Reg} (hp : l[k]? = some p) : hasR p.1 p.2 x = ((k : Int) == holderR l x) := by
  unfold holderR
  rcases firstI_spec (fun p : Reg => hasR p.1 p.2 x) l with ⟨h1, h2⟩ | ⟨m, q, h1, h2, h3, h4⟩
  · rw [h1, h2 p (List.mem_of_getElem? hp)]
    symm; rw [beq_eq_false_iff_ne]; omega
  · rw [h1]
    by_cases e : k = m
    · subst e
      rw [hp] at h2; injection h2 with h2; subst h2
      rw [h3]; symm; exact beq_self_eq_true _
    · cases hh : hasR p.1 p.2 x with
      | true => exact (apart_has (apart_of h hp h2 e) hh h3).elim
      | false => symm; rw [beq_eq_false_iff_ne]; omega
theorem holder_out {l : List Reg} {x : Int} (hx : x < 0 ∨ 4096 ≤ x) : holderR l x = -1 := by
  unfold holderR
  apply firstI_none
  intro j q _ _
  unfold hasR
  cases hm : mayR q.1 q.2 with
  | false => rfl
  | true =>
    have := mayR_iff.1 hm
    rw [Bool.true_and, decide_eq_false_iff_not]; omega
def sumS (l : List Reg) : Int := match l with
  | [] => 0
  | p :: l => p.2 + sumS l
theorem sumS_append (a b : List Reg) : sumS (a ++ b) = sumS a + sumS b := by
  induction a with
  | nil => simp [sumS]
  | cons p a ih => simp only [List.cons_append, sumS, ih]; omega
theorem sumS_snoc {l : List Reg} {k : Nat} {p : Reg} (h : l[k]? = some p) : sumS (l.take (k + 1)) = sumS (l.take k) + p.2 := by
  rw [take_snoc h, sumS_append]; simp [sumS]
theorem sumS_bd (l : List Reg) (h : ∀ p ∈ l, 0 ≤ p.2 ∧ p.2 ≤ 512) : 0 ≤ sumS l ∧ sumS l ≤ 512 * l.length := by
  induction l with
  | nil => simp [sumS]
  | cons p l ih =>
    have h1 := ih fun q hq => h q (List.mem_cons_of_mem _ hq)
    have h2 := h p (List.mem_cons_self ..)
    simp only [sumS, List.length_cons]; omega
def cnt (f : Int → Bool) : Nat → Int
  | 0 => 0
  | n + 1 => cnt f n + if f (n : Int) = true then 1 else 0
theorem cnt_bd (f : Int → Bool) : ∀ n : Nat, 0 ≤ cnt f n ∧ cnt f n ≤ n
  | 0 => by simp [cnt]
  | n + 1 => by
    have := cnt_bd f n
    unfold cnt; split <;> omega
theorem cnt_congr {f g : Int → Bool} (h : ∀ x, f x = g x) : ∀ n : Nat, cnt f n = cnt g n
  | 0 => rfl
  | n + 1 => by unfold cnt; rw [cnt_congr h n, h]
theorem cnt_or {f g : Int → Bool} (h : ∀ x, f x = true → g x = true → False) : ∀ n : Nat, cnt (fun x => f x || g x) n = cnt f n + cnt g n
  | 0 => rfl
  | n + 1 => by
    unfold cnt
    rw [cnt_or h n]
    have := h n
    cases hf : f (n : Int) <;> cases hg : g (n : Int) <;> simp_all <;> omega
theorem cnt_none : ∀ n : Nat, cnt (fun _ => false) n = 0
  | 0 => rfl
  | n + 1 => by unfold cnt; rw [cnt_none n]; rfl
theorem cnt_has {b s : Int} (hm : mayR b s = true) : ∀ n : Nat, cnt (hasR b s) n = if (n : Int) ≤ b then 0 else if (n : Int) ≤ b + s then n - b else s
  | 0 => by
    have := mayR_iff.1 hm
    unfold cnt; rw [if_pos (by omega)]
  | n + 1 => by
    have h := mayR_iff.1 hm
    unfold cnt
    rw [cnt_has hm n]
    have e : (hasR b s n = true) ↔ (b ≤ n ∧ (n : Int) < b + s) := by unfold hasR; rw [hm, Bool.true_and, decide_eq_true_eq]
    by_cases h1 : b ≤ n ∧ (n : Int) < b + s
    · rw [if_pos (e.2 h1)]; split <;> split <;> (try split) <;> (try split) <;> omega
    · rw [if_neg (fun h => h1 (e.1 h))]; split <;> split <;> (try split) <;> (try split) <;> omega
theorem sum_cnt : ∀ l : List Reg, l.all mayP = true → l.Pairwise (fun p q => apartR p.1 p.2 q.1 q.2 = true) → cnt (fun x => l.any fun p => hasR p.1 p.2 x) 4096 = sumS l
  | [], _, _ => cnt_none _
  | p :: l, h, hp => by
    rw [List.all_cons, Bool.and_eq_true] at h
    rw [List.pairwise_cons] at hp
    have ih := sum_cnt l h.2 hp.2
    have hm : mayR p.1 p.2 = true := h.1
    have hb := mayR_iff.1 hm
    have e : cnt (fun x => (p :: l).any fun p => hasR p.1 p.2 x) 4096 = cnt (hasR p.1 p.2) 4096 + cnt (fun x => l.any fun p => hasR p.1 p.2 x) 4096 := by
      rw [← cnt_or]
      · apply cnt_congr; intro x; rw [List.any_cons]
      · intro x h1 h2
        rw [List.any_eq_true] at h2
        obtain ⟨q, hq, hx⟩ := h2
        exact apart_has (hp.1 q hq) h1 hx
    rw [e, ih, cnt_has hm, if_neg (by omega), sumS]
    split <;> omega
theorem sum_holder {l : List Reg} (h : allE l = 0) : cnt (fun x => decide (0 ≤ holderR l x)) 4096 = sumS l := by
  rw [← sum_cnt l (good_of h).1]
  · apply cnt_congr; intro x; exact (firstI_any (fun p : Reg => hasR p.1 p.2 x) l).symm
  · rw [List.pairwise_iff_getElem]
    intro i j hi hj hij
    exact apart_of h (List.getElem?_eq_getElem hi) (List.getElem?_eq_getElem hj) (by omega)
end Go.Proofs.Ytjliaojanmbicaa.reg
