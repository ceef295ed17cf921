/- Calls of a partition: a copy of a world; no condition. -/
import Derived.Test.YthkkmnckidfmkaaRows
import Derived.Test.YthkkmnckidfmkaaHyF
import Derived.Test.YthkkmnckidfmkaaHyD
import Derived.Deep.CutRange
namespace Go.Proofs.Ythkkmnckidfmkaa.hy
open Go Go.ChangeShapes Go.WideShapes Go.ChangeAt Go.RowKit Go.Proofs.Ythkkmnckidfmkaa.rows
/-- A world's slices as they came in. -/
def WIn (w : World) (B : Option Addr) (d : Nat) (qs : List Qu) (Ci : Option Addr) (ci : Nat) (inp : Msg) : Prop := Qus w B qs ∧ qs.length ≤ d ∧ (B = none → d = 0) ∧ Rd w Ci (bcs inp) ∧ inp.length ≤ ci ∧ (Ci = none → ci = 0)
/-- The same in memory of the call's own. -/
def WOut (lo : Nat) (w : World) (B : Option Addr) (d : Nat) (qs : List Qu) (Ci : Option Addr) (ci : Nat) (inp : Msg) : Prop := QRow lo w B d qs ∧ Bys lo w Ci ci inp
theorem WOut.win {lo : Nat} {w : World} {B : Option Addr} {d : Nat} {qs : List Qu} {Ci : Option Addr} {ci : Nat} {inp : Msg} (h : WOut lo w B d qs Ci ci inp) : WIn w B d qs Ci ci inp :=
  ⟨h.1.qus, h.1.1, h.1.2.1, h.2.2.2.rd, h.2.1, h.2.2.1⟩
theorem WIn.below {w w' : World} {B : Option Addr} {d : Nat} {qs : List Qu} {Ci : Option Addr} {ci : Nat} {inp : Msg} (h : WIn w B d qs Ci ci inp) (hb : Below w.heap.size w w') : WIn w' B d qs Ci ci inp :=
  ⟨h.1.below hb, h.2.1, h.2.2.1, h.2.2.2.1.below hb, h.2.2.2.2⟩
theorem WOut.below {lo : Nat} {w w' : World} {B : Option Addr} {d : Nat} {qs : List Qu} {Ci : Option Addr} {ci : Nat} {inp : Msg} (h : WOut lo w B d qs Ci ci inp) (hb : Below w.heap.size w w') : WOut lo w' B d qs Ci ci inp := ⟨h.1.below hb, h.2.below hb⟩
theorem WOut.lo {lo lo' : Nat} {w : World} {B : Option Addr} {d : Nat} {qs : List Qu} {Ci : Option Addr} {ci : Nat} {inp : Msg} (h : WOut lo w B d qs Ci ci inp) (hl : lo' ≤ lo) : WOut lo' w B d qs Ci ci inp := ⟨h.1.lo hl, h.2.lo hl⟩
/-- What is told of sizes. -/
def Small (qs : List Qu) (inp : Msg) : Prop := qs.length ≤ 1000000 ∧ inp.length ≤ 1000000 ∧ ∀ q ∈ qs, q.msgs.length ≤ 1000000 ∧ ∀ m ∈ q.msgs, m.length ≤ 1000000
theorem info_w : (Try.prog.info? 37).map (·.size) = some 5 := by kernel_rfl
/-- A row of queues in one block. -/
def CRow (lo gq : Nat) (w : World) (us : List (Sl Qu)) : Prop := lo ≤ gq ∧ ∃ cs, w.heap[gq]? = some (.cells cs 36 (0, 0)) ∧ ∀ (j : Nat) (u : Value), (flat Qu.cells us)[j]? = some u → cs[j]? = some u
theorem CRow.below {lo gq : Nat} {w w' : World} {us : List (Sl Qu)} {b : Nat} (h : CRow lo gq w us) (hb : Below b w w') (hg : gq < b) : CRow lo gq w' us := by
  obtain ⟨h1, cs, h2, h3⟩ := h
  exact ⟨h1, cs, blk_below h2 hb hg, h3⟩
theorem CRow.lt {lo gq : Nat} {w : World} {us : List (Sl Qu)} (h : CRow lo gq w us) : gq < w.heap.size := by
  obtain ⟨_, cs, h2, _⟩ := h
  exact blk_lt h2
theorem CRow.cell {lo gq : Nat} {w : World} {us : List (Sl Qu)} (h : CRow lo gq w us) {k : Nat} {u : Sl Qu} (hu : us[k]? = some u) : (∀ (j : Nat) (v : Value), (Qu.cells u.1 u.2.1 u.2.2)[j]? = some v → w.cell? ⟨gq, k * 6 + j, none⟩ = some v) ∧ ∀ j, w.frozen? ⟨gq, j, none⟩ = false := by
  obtain ⟨_, cs, h2, h3⟩ := h
  exact ⟨fun j v hv => by rw [blk_cell h2]; exact h3 _ _ (flat_at Qu.cells 6 qu_len us k u hu j v hv), fun j => blk_frozen h2 j⟩
/-- Another slice of messages in a queue's place. -/
theorem CRow.set {lo gq : Nat} {w : World} {us : List (Sl Qu)} (h : CRow lo gq w us) {k : Nat} {u : Sl Qu} (hu : us[k]? = some u) (A : Option Addr) (c : Nat) : CRow lo gq (w.setCell ⟨gq, k * 6 + 5, none⟩ (.slice A u.1.msgs.length c)) (us.set k (u.1, A, c)) ∧ KeptX 36 w (w.setCell ⟨gq, k * 6 + 5, none⟩ (.slice A u.1.msgs.length c)) := by
  obtain ⟨h1, cs, h2, h3⟩ := h
  have hk := (List.getElem?_eq_some_iff.1 hu).1
  have hs := (Array.getElem?_eq_some_iff.1 (h3 (k * 6 + 5) _ (flat_at Qu.cells 6 qu_len us k u hu 5 _ rfl))).1
  refine ⟨⟨h1, _, blk_set h2 _ _, fun j v hv => ?_⟩, KeptX.set h2 _ _⟩
  rw [flat_get, List.getElem?_set] at hv
  rw [Array.getElem?_setIfInBounds]
  by_cases hj : k = j / 6
  · rw [if_pos hj, if_pos hk] at hv
    have hr : j % 6 < 6 := Nat.mod_lt _ (by decide)
    have ej : j = k * 6 + j % 6 := by omega
    by_cases h5 : k * 6 + 5 = j
    · rw [if_pos h5, if_pos hs]
      have : j % 6 = 5 := by omega
      rw [this] at hv
      exact hv
    · rw [if_neg h5]
      refine h3 j v ?_
      rw [flat_get, ← hj, hu]
      have hlt : j % 6 < 5 := by omega
      generalize j % 6 = r at *
      match r, hlt, hv with
      | 0, _, hv => exact hv
      | 1, _, hv => exact hv
      | 2, _, hv => exact hv
      | 3, _, hv => exact hv
      | 4, _, hv => exact hv
  · rw [if_neg hj, ← flat_get] at hv
    rw [if_neg (by omega)]
    exact h3 j v hv
/-- The first k messages are copied. -/
def MPart (lo : Nat) (w : World) (A : Option Addr) (ls : List Msg) (k : Nat) : Prop :=
  ls = [] ∨ ∃ gm cs, A = some ⟨gm, 0, none⟩ ∧ lo ≤ gm ∧ w.heap[gm]? = some (.cells cs 24 (0, 0)) ∧ ls.length ≤ cs.size ∧ ∀ (j : Nat) (l : Msg), j < k → ls[j]? = some l → ∃ A' c, cs[j]? = some (.slice A' l.length c) ∧ l.length ≤ c ∧ (A' = none → c = 0) ∧ ((∃ g, A' = some ⟨g, 0, none⟩) ∨ l = []) ∧ RowIn 5 lo w.heap.size w A' (bcs l)
theorem MPart.own {lo : Nat} {w : World} {A : Option Addr} {ls : List Msg} {n : Nat} (hn : ls.length = n) (h : MPart lo w A ls n) : Own2 lo w.heap.size w A ls := by
  subst hn
  rcases h with rfl | ⟨gm, cs, rfl, h1, h2, h3, h4⟩
  · exact ⟨[], rfl, .inl rfl, fun k l h => by simp at h⟩
  · refine ⟨cs.toList.take ls.length, by simp; omega, .inr ⟨gm, 0, cs, rfl, h1, blk_lt h2, h2, fun j u hu => ?_⟩, fun k l hk => ?_⟩
    · rw [Nat.zero_add]
      rw [List.getElem?_take] at hu
      split at hu
      · simpa using hu
      · cases hu
    · have hlt := (List.getElem?_eq_some_iff.1 hk).1
      obtain ⟨A', c, e1, e2, e3, e4, e5⟩ := h4 k l hlt hk
      exact ⟨A', c, by rw [List.getElem?_take, if_pos hlt]; simpa using e1, e2, e3, e4, e5⟩
theorem MPart.below {lo : Nat} {w w' : World} {A : Option Addr} {ls : List Msg} {k : Nat} (h : MPart lo w A ls k) (hb : Below w.heap.size w w') : MPart lo w' A ls k := by
  rcases h with h | ⟨gm, cs, e, h1, h2, h3, h4⟩
  · exact .inl h
  · refine .inr ⟨gm, cs, e, h1, blk_below h2 hb (blk_lt h2), h3, fun j l hj hl => ?_⟩
    obtain ⟨A', c, e1, e2, e3, e4, e5⟩ := h4 j l hj hl
    exact ⟨A', c, e1, e2, e3, e4, (e5.below hb (Nat.le_refl _)).mono (Nat.le_refl _) hb.size⟩
/-- One message more. -/
theorem MPart.step {lo : Nat} {w : World} {A : Option Addr} {ls : List Msg} {k : Nat} (h : MPart lo w A ls k) {l : Msg} (hl : ls[k]? = some l) {v : Value} (hv : MsgAt lo w.heap.size w v l) : ∃ gm, A = some ⟨gm, 0, none⟩ ∧ lo ≤ gm ∧ (∃ u, w.cell? ⟨gm, k, none⟩ = some u) ∧ w.frozen? ⟨gm, k, none⟩ = false ∧ MPart lo (w.setCell ⟨gm, k, none⟩ v) A ls (k + 1) := by
  have hlt := (List.getElem?_eq_some_iff.1 hl).1
  rcases h with h | ⟨gm, cs, rfl, h1, h2, h3, h4⟩
  · subst h; exact absurd hlt (Nat.not_lt_zero _)
  · have kx := KeptX.set h2 k v
    refine ⟨gm, rfl, h1, ⟨cs[k]'(by omega), by rw [blk_cell h2]; exact Array.getElem?_eq_getElem _⟩, blk_frozen h2 k, .inr ⟨gm, _, rfl, h1, blk_set h2 k v, by simpa using h3, fun j x hj hx => ?_⟩⟩
    by_cases hjk : j = k
    · subst hjk
      rw [hl] at hx; injection hx with hx; subst hx
      obtain ⟨A', c, rfl, e2, e3, e4, e5⟩ := hv
      exact ⟨A', c, by rw [Array.getElem?_setIfInBounds, if_pos rfl, if_pos (by omega)], e2, e3, e4, RowIn.keptX e5 (by decide) kx⟩
    · obtain ⟨A', c, e1, e2, e3, e4, e5⟩ := h4 j x (by omega) hx
      exact ⟨A', c, by rw [Array.getElem?_setIfInBounds, if_neg (fun e => hjk e.symm)]; exact e1, e2, e3, e4, RowIn.keptX e5 (by decide) kx⟩
theorem MPart.kept {lo : Nat} {w w' : World} {A : Option Addr} {ls : List Msg} {k : Nat} (h : MPart lo w A ls k) (kx : KeptX 36 w w') : MPart lo w' A ls k := by
  rcases h with h | ⟨gm, cs, e, h1, h2, h3, h4⟩
  · exact .inl h
  · refine .inr ⟨gm, cs, e, h1, kx.2 _ _ _ (by decide) h2, h3, fun j l hj hl => ?_⟩
    obtain ⟨A', c, e1, e2, e3, e4, e5⟩ := h4 j l hj hl
    exact ⟨A', c, e1, e2, e3, e4, RowIn.keptX e5 (by decide) kx⟩
theorem MPart.start {lo : Nat} {w : World} {A : Option Addr} {c : Nat} {ls : List Msg} {vs : List Value} (h : w.ownsRow lo 24 1 (.slice A ls.length c) ls.length vs) : MPart lo w A ls 0 := by
  rcases h.2 with ⟨_, h1⟩ | ⟨g, cap, cur, e, h1, h2, h3, _, h5, _⟩
  · exact .inl (List.eq_nil_of_length_eq_zero h1)
  · injection e with eA _ ec
    exact .inr ⟨g, cur, eA, h1, h2, by omega, fun j l hj => absurd hj (Nat.not_lt_zero _)⟩
theorem CRow.of_own {lo n : Nat} {w : World} {v : Value} {us : List (Sl Qu)} (h : w.ownsRow lo 36 6 v n (flat Qu.cells us)) (hn : 0 < n) : ∃ gq c, v = .slice (some ⟨gq, 0, none⟩) n c ∧ n ≤ c ∧ CRow lo gq w us := by
  rcases h.2 with ⟨_, h1⟩ | ⟨g, cap, cur, e, h1, h2, h3, _, h5, h6⟩
  · omega
  · refine ⟨g, cap, e, h3, h1, cur, h2, fun j u hu => ?_⟩
    rw [← h6, List.getElem?_take] at hu
    split at hu
    · simpa using hu
    · cases hu
theorem flat_one (us : List (Sl Qu)) : ∀ u ∈ flat Qu.cells us, u.oneCell' = true := by
  intro u hu
  obtain ⟨x, _, hx⟩ := List.mem_flatMap.1 hu
  have := qu_one x.1 x.2.1 x.2.2
  rw [Array.all_eq_true'] at this
  exact this u (by simpa using hx)
def CQs (lo : Nat) (Bq : Option Addr) (wr : World) (qs : List Qu) (us : List (Sl Qu)) (i : Nat) : Prop :=
  qs = [] ∨ ∃ gq us', Bq = some ⟨gq, 0, none⟩ ∧ us'.map (·.1) = qs ∧ CRow lo gq wr us' ∧ (∀ (j : Nat) (u : Sl Qu), j < i → us'[j]? = some u → ownM lo wr u.2.1 u.2.2 u.1) ∧ ∀ j, i ≤ j → us'[j]? = us[j]?
def CInv (lo gw : Nat) (v0 v1 : Array Value) (Bq C2 : Option Addr) (c2 : Nat) (inp : Msg) (qs : List Qu) (us : List (Sl Qu)) (w : World) (i : Nat) (wr : World) : Prop :=
  Below lo w wr ∧ wr.heap[gw]? = some (.cells v0 37 (0, 0)) ∧ wr.heap[gw + 1]? = some (.cells v1 37 (0, 0)) ∧ Bys lo wr C2 c2 inp ∧ CQs lo Bq wr qs us i
theorem CQs.row {lo n d : Nat} {Bq : Option Addr} {wr : World} {qs : List Qu} {us : List (Sl Qu)} (h : CQs lo Bq wr qs us n) (hn : qs.length = n) (hd : n ≤ d) (hB : Bq = none → d = 0) : QRow lo wr Bq d qs := by
  subst hn
  rcases h with rfl | ⟨gq, us', rfl, h1, h2, h3, _⟩
  · exact ⟨hd, hB, .inr rfl, [], rfl, .inl rfl, fun u hu => by cases hu⟩
  · obtain ⟨k1, cs, k2, k3⟩ := h2
    refine ⟨hd, hB, .inl ⟨gq, rfl⟩, us', h1, .inr ⟨gq, 0, cs, rfl, k1, blk_lt k2, k2, fun j u hu => by rw [Nat.zero_add]; exact k3 j u hu⟩, fun u hu => ?_⟩
    obtain ⟨j, hj⟩ := List.getElem?_of_mem hu
    exact h3 j u (by rw [← h1, List.length_map]; exact (List.getElem?_eq_some_iff.1 hj).1) hj
theorem CQs.start {lo n d : Nat} {Bq : Option Addr} {w : World} {qs : List Qu} {us : List (Sl Qu)} (h : w.ownsRow lo 36 6 (.slice Bq n d) n (flat Qu.cells us)) (hn : qs.length = n) (hm : us.map (·.1) = qs) : CQs lo Bq w qs us 0 := by
  by_cases h0 : n = 0
  · exact .inl (List.eq_nil_of_length_eq_zero (hn.trans h0))
  · obtain ⟨gq, c, e, _, hc⟩ := CRow.of_own h (by omega)
    injection e with e1 _ _
    exact .inr ⟨gq, us, e1, hm, hc, fun j _ hj => absurd hj (Nat.not_lt_zero _), fun _ _ => rfl⟩
theorem below_set_both {B g : Nat} {a b : World} {cs : Array Value} {T : TypeId} (h : Below B a b) (hg : a.heap[g]? = some (.cells cs T (0, 0))) (hlt : g < B) (k : Nat) (u : Value) : Below B (a.setCell ⟨g, k, none⟩ u) (b.setCell ⟨g, k, none⟩ u) :=
  ⟨h.os, h.tape, h.output, by simpa using h.size, fun g' hg' => by
    by_cases e : g' = g
    · subst e
      rw [blk_set hg k u, blk_set (blk_below hg h hlt) k u]
    · exact (Below.heap_setCell b ⟨g, k, none⟩ u g' e).trans ((h.block g' hg').trans (Below.heap_setCell a ⟨g, k, none⟩ u g' e).symm)⟩
/-- A queue more has messages of its own. -/
theorem CInv.step {lo gw gq i n : Nat} {v0 v1 : Array Value} {C2 : Option Addr} {c2 : Nat} {inp : Msg} {w wq w9 : World} {qs : List Qu} {us us' : List (Sl Qu)} {u : Sl Qu} {A5 : Option Addr} {c5 : Nat} (hB : Below lo w wq) (g0 : wq.heap[gw]? = some (.cells v0 37 (0, 0))) (g1 : wq.heap[gw + 1]? = some (.cells v1 37 (0, 0))) (hy : Bys lo wq C2 c2 inp)
    (hm : us'.map (·.1) = qs) (hr : CRow lo gq wq us') (hu : us'[i]? = some u) (hn : u.1.msgs.length = n) (hls : lo ≤ wq.heap.size)
    (hown : ∀ (j : Nat) (x : Sl Qu), j < i → us'[j]? = some x → ownM lo wq x.2.1 x.2.2 x.1) (hold : ∀ j, i ≤ j → us'[j]? = us[j]?)
    (hb : Below wq.heap.size (wq.setCell ⟨gq, i * 6 + 5, none⟩ (.slice A5 n c5)) w9) (h5 : n ≤ c5) (hA : A5 = none → c5 = 0) (hp : MPart wq.heap.size w9 A5 u.1.msgs n) : CInv lo gw v0 v1 (some ⟨gq, 0, none⟩) C2 c2 inp qs us w (i + 1) w9 := by
  subst hn
  have hk := (List.getElem?_eq_some_iff.1 hu).1
  obtain ⟨hcr, kx⟩ := CRow.set hr hu A5 c5
  have hb' : Below (wq.setCell ⟨gq, i * 6 + 5, none⟩ (.slice A5 u.1.msgs.length c5)).heap.size (wq.setCell ⟨gq, i * 6 + 5, none⟩ (.slice A5 u.1.msgs.length c5)) w9 := by simpa using hb
  have hbw : Below lo w (wq.setCell ⟨gq, i * 6 + 5, none⟩ (.slice A5 u.1.msgs.length c5)) := hB.setCell (p := ⟨gq, i * 6 + 5, none⟩) hr.1 _
  refine ⟨hbw.trans (hb.mono hls), blk_below (kx.2 _ _ _ (by decide) g0) hb (blk_lt g0), blk_below (kx.2 _ _ _ (by decide) g1) hb (blk_lt g1), (hy.keptX (by decide) kx).below hb', .inr ⟨gq, us'.set i (u.1, A5, c5), rfl, ?_, hcr.below hb hr.lt, fun j x hj hx => ?_, fun j hj => ?_⟩⟩
  · rw [List.map_set, hm]
    apply List.ext_getElem?
    intro j
    rw [List.getElem?_set]
    by_cases hj : i = j
    · subst hj
      rw [if_pos rfl, ← hm, List.getElem?_map, hu, List.length_map, if_pos hk]; rfl
    · rw [if_neg hj]
  · rw [List.getElem?_set] at hx
    by_cases hji : i = j
    · rw [if_pos hji, if_pos hk] at hx
      injection hx with hx; subst hx
      exact ⟨h5, hA, (MPart.own rfl hp).mono hls (Nat.le_refl _)⟩
    · rw [if_neg hji] at hx
      exact ((hown j x (by omega) hx).keptX (by decide) (by decide) kx).below hb'
  · rw [List.getElem?_set, if_neg (by omega)]
    exact hold j (by omega)
theorem MPart.put {lo gm : Nat} {w : World} {ls : List Msg} {k : Nat} (h : MPart lo w (some ⟨gm, 0, none⟩) ls k) {l : Msg} (hl : ls[k]? = some l) {v : Value} (hv : MsgAt lo w.heap.size w v l) : MPart lo (w.setCell ⟨gm, k, none⟩ v) (some ⟨gm, 0, none⟩) ls (k + 1) ∧ lo ≤ gm := by
  obtain ⟨g, e, h1, _, _, h2⟩ := h.step hl hv
  injection e with e; injection e with e; subst e
  exact ⟨h2, h1⟩
theorem MPart.open {lo : Nat} {w : World} {A : Option Addr} {ls : List Msg} {k j : Nat} (h : MPart lo w A ls k) {l : Msg} (hl : ls[j]? = some l) : ∃ gm, A = some ⟨gm, 0, none⟩ ∧ lo ≤ gm ∧ (∃ u, w.cell? ⟨gm, j, none⟩ = some u) ∧ w.frozen? ⟨gm, j, none⟩ = false ∧ gm < w.heap.size := by
  have hlt := (List.getElem?_eq_some_iff.1 hl).1
  rcases h with h | ⟨gm, cs, rfl, h1, h2, h3, h4⟩
  · subst h; exact absurd hlt (Nat.not_lt_zero _)
  · exact ⟨gm, rfl, h1, ⟨cs[j]'(by omega), by rw [blk_cell h2]; exact Array.getElem?_eq_getElem _⟩, blk_frozen h2 j, blk_lt h2⟩
/-- What Copy tells. -/
def COut (fr tk ver : Int) (nq ni : Nat) (qs : List Qu) (inp : Msg) (w : World) (e : Ending) (w' : World) : Prop :=
  ∃ B2 d2 C2 c2, e = .returned (.agg #[.int .i64 fr, .int .i64 tk, .int .i64 ver, .slice B2 nq d2, .slice C2 ni c2]) ∧ WOut w.heap.size w' B2 d2 qs C2 c2 inp ∧ Below w.heap.size w w'
theorem own_keptX {T T0 : TypeId} {lo sz n : Nat} {w w' : World} {v : Value} {xs : List Value} (h : w.ownsRow lo T sz v n xs) (hT : T ≠ T0) (k : KeptX T0 w w') : w'.ownsRow lo T sz v n xs := by
  refine ⟨h.1, ?_⟩
  rcases h.2 with hn | ⟨g, cap, cur, rfl, hb0, hgg, rest⟩
  · exact .inl hn
  · exact .inr ⟨g, cap, cur, rfl, hb0, k.2 g cur T hT hgg, rest⟩
set_option maxRecDepth 100000 in
set_option maxHeartbeats 4000000 in
theorem hCopy (fr tk ver : Int) (qs : List Qu) (inp : Msg) (B : Option Addr) (d : Nat) (Ci : Option Addr) (ci : Nat) (hs : Small qs inp) (w : World) (hw : WIn w B d qs Ci ci inp) :
    Calls Try.prog 15 #[.agg #[.int .i64 fr, .int .i64 tk, .int .i64 ver, .slice B qs.length d, .slice Ci inp.length ci]] w (COut fr tk ver qs.length inp.length qs inp w) := by
  obtain ⟨hq, hd, hB, hi, hci, hCi⟩ := hw
  obtain ⟨s1, s2, s3⟩ := hs
  obtain ⟨us, hus, hru, hmu⟩ := hq
  obtain ⟨nq, hnq⟩ : ∃ m, qs.length = m := ⟨_, rfl⟩
  obtain ⟨ni, hni⟩ : ∃ m, inp.length = m := ⟨_, rfl⟩
  rw [hnq] at hd s1 ⊢; rw [hni] at s2 ⊢
  have hX := ((Below.refl w.heap.size w).alloc (Nat.le_refl _) (.cells #[.int .i64 fr, .int .i64 tk, .int .i64 ver, .slice B nq d, .slice Ci ni ci] 37)).alloc (by simp) (.cells #[.int .i64 0, .int .i64 0, .int .i64 0, .slice none 0 0, .slice none 0 0] 37)
  have G0 := Lib.hid (blk_alloc (blk_new w #[.int .i64 fr, .int .i64 tk, .int .i64 ver, .slice B nq d, .slice Ci ni ci] 37) (.cells #[.int .i64 0, .int .i64 0, .int .i64 0, .slice none 0 0, .slice none 0 0] 37))
  have G1 := Lib.hid (show ((w.alloc (.cells #[.int .i64 fr, .int .i64 tk, .int .i64 ver, .slice B nq d, .slice Ci ni ci] 37)).alloc (.cells #[.int .i64 0, .int .i64 0, .int .i64 0, .slice none 0 0, .slice none 0 0] 37)).heap[w.heap.size + 1]? = some (.cells #[.int .i64 0, .int .i64 0, .int .i64 0, .slice none 0 0, .slice none 0 0] 37 (0, 0)) by have := blk_new (w.alloc (.cells #[.int .i64 fr, .int .i64 tk, .int .i64 ver, .slice B nq d, .slice Ci ni ci] 37)) #[.int .i64 0, .int .i64 0, .int .i64 0, .slice none 0 0, .slice none 0 0] 37; simpa using this)
  have hul : us.length = nq := by rw [← hnq, ← hus, List.length_map]
  have T := rows.clone Ci ci inp hCi hci (by rw [hni]; exact s2) ((w.alloc (.cells #[.int .i64 fr, .int .i64 tk, .int .i64 ver, .slice B nq d, .slice Ci ni ci] 37)).alloc (.cells #[.int .i64 0, .int .i64 0, .int .i64 0, .slice none 0 0, .slice none 0 0] 37)) (hi.below hX)
  rw [hni] at T
  have HX := Lib.hid hX; have HT := Lib.hid T; have HUS := Lib.hid hus; have HRU := Lib.hid hru; have HMU := Lib.hid hmu; have HNQ := Lib.hid hnq; have HNI := Lib.hid hni; have HB := Lib.hid hB; have S3 := Lib.hid s3; have HUL := Lib.hid hul; have HD := Lib.hid hd
  clear hX T hi hCi hci hus hru hmu hnq hni hB s3 hul hd
  have a4 := blk_cell G0.out 4
  go_enter Try.func15, Try.ntmps15
  go_wp2_with fail
  refine HT.out.mono ?_
  rintro e w1 ⟨v, rfl, hv⟩
  clear HT a4
  obtain ⟨C2, c2, rfl, hy⟩ := Bys.of_msg hv.msg
  rw [HNI.out]
  have b1 : Below _ _ w1 := (by obtain ⟨_, _, _, _, _, _, _, b⟩ := hv; exact b)
  have G2 := Lib.hid (blk_below G0.out b1 (blk_lt G0.out)); have G3 := Lib.hid (blk_below G1.out b1 (blk_lt G1.out))
  have B1 := Lib.hid (HX.out.trans (b1.mono HX.out.size))
  have HY := Lib.hid (hy.lo HX.out.size)
  clear b1 hy hv G0 G1 HX
  have a3 := blk_cell G2.out 3
  have a4 := blk_cell G2.out 4
  have f4 := blk_frozen G2.out 4
  go_upto_region 2 with fail
  have G4 := Lib.hid (blk_eq (blk_set G2.out 4 (.slice C2 ni c2)) (show _ = #[.int .i64 fr, .int .i64 tk, .int .i64 ver, .slice B nq d, .slice C2 ni c2] from rfl))
  have G5 := Lib.hid (blk_far G3.out (p := ⟨w.heap.size, 4, none⟩) (show w.heap.size + 1 ≠ w.heap.size by omega) (.slice C2 ni c2))
  have kx := KeptX.set G2.out 4 (.slice C2 ni c2)
  have HY2 := Lib.hid (HY.out.keptX (by decide) kx)
  have B2 := Lib.hid (B1.out.setCell (p := ⟨w.heap.size, 4, none⟩) (Nat.le_refl _) (.slice C2 ni c2))
  generalize w1.setCell ⟨w.heap.size, 4, none⟩ (.slice C2 ni c2) = w2 at *
  clear a3 a4 f4 kx G2 G3 B1 HY
  have a3 := blk_cell G4.out 3
  have T := clone_qs B nq d (flat Qu.cells us) (by rw [flat_length Qu.cells 6 qu_len, HUL.out]) (flat_one us) HB.out HD.out s1 w2 (HRU.out.below B2.out)
  have HT := Lib.hid T; clear T
  go_wp2_with fail
  refine HT.out.mono ?_
  rintro e w3 ⟨v, rfl, hown, b3⟩
  clear HT a3
  obtain ⟨Bq, dq, rfl, hndq, hform⟩ : ∃ Bq dq, v = .slice Bq nq dq ∧ nq ≤ dq ∧ (Bq = none → dq = 0) := (by rcases hown.2 with ⟨h1, h2⟩ | ⟨g, cap, cur, h1, _, _, h3, _⟩; exact ⟨none, 0, by rw [h1, h2], by omega, fun _ => rfl⟩; exact ⟨_, cap, h1, h3, fun h => by cases h⟩)
  have G6 := Lib.hid (blk_below G4.out b3 (blk_lt G4.out)); have G7 := Lib.hid (blk_below G5.out b3 (blk_lt G5.out))
  have B3 := Lib.hid (B2.out.trans (b3.mono B2.out.size))
  have HY3 := Lib.hid (HY2.out.below b3)
  have OW := Lib.hid (show w3.ownsRow w.heap.size 36 6 (.slice Bq nq dq) nq (flat Qu.cells us) from ⟨hown.1, hown.2.imp id (fun ⟨g, cap, cur, h1, h2, h3⟩ => ⟨g, cap, cur, h1, Nat.le_trans B2.out.size h2, h3⟩)⟩)
  have HF := Lib.hid (show nq ≤ dq ∧ (Bq = none → dq = 0) from ⟨hndq, hform⟩)
  clear b3 hown hndq hform G4 G5 B2 HY2
  have f3 := blk_frozen G6.out 3
  have a3 := blk_cell G6.out 3
  go_upto_region 3 with fail
  have G8 := Lib.hid (blk_eq (blk_set G6.out 3 (.slice Bq nq dq)) (show _ = #[.int .i64 fr, .int .i64 tk, .int .i64 ver, .slice Bq nq dq, .slice C2 ni c2] from rfl))
  have G9 := Lib.hid (blk_far G7.out (p := ⟨w.heap.size, 3, none⟩) (show w.heap.size + 1 ≠ w.heap.size by omega) (.slice Bq nq dq))
  have kx := KeptX.set G6.out 3 (.slice Bq nq dq)
  have HY4 := Lib.hid (HY3.out.keptX (by decide) kx)
  have OW2 := Lib.hid (own_keptX OW.out (by decide) kx)
  have B4 := Lib.hid (B3.out.setCell (p := ⟨w.heap.size, 3, none⟩) (Nat.le_refl _) (.slice Bq nq dq))
  generalize w3.setCell ⟨w.heap.size, 3, none⟩ (.slice Bq nq dq) = w4 at *
  clear a3 f3 kx G6 G7 B3 HY3 OW
  have a3 := blk_cell G8.out 3
  have I0 := Lib.hid (show CInv w.heap.size w.heap.size #[.int .i64 fr, .int .i64 tk, .int .i64 ver, .slice Bq nq dq, .slice C2 ni c2] #[.int .i64 0, .int .i64 0, .int .i64 0, .slice none 0 0, .slice none 0 0] Bq C2 c2 inp qs us w 0 w4 from ⟨B4.out, G8.out, G9.out, HY4.out, CQs.start OW2.out HNQ.out HUS.out⟩)
  clear G8 G9 B4 HY4 OW2
  go_wp2_with fail
  clear a3
  go_loopw [18] (fun iv wr => ∃ i : Nat, i ≤ nq ∧ iv = .int .i64 i ∧ CInv w.heap.size w.heap.size #[.int .i64 fr, .int .i64 tk, .int .i64 ver, .slice Bq nq dq, .slice C2 ni c2] #[.int .i64 0, .int .i64 0, .int .i64 0, .slice none 0 0, .slice none 0 0] Bq C2 c2 inp qs us w i wr) (fun iv _ => nq - (intOf iv).toNat)
  case atStart => exact ⟨0, Nat.zero_le _, rfl, I0.out⟩
  case round =>
    obtain ⟨wo, hwo⟩ : ∃ x : World, x = wr := ⟨_, rfl⟩
    subst hwo
    obtain ⟨i, hi, rfl, hinv⟩ := hrel
    obtain ⟨hb, g0, g1, hy, hq⟩ := hinv
    have BR := Lib.hid hb; have G0 := Lib.hid g0; have G1 := Lib.hid g1; have HY := Lib.hid hy; clear hb g0 g1 hy I0
    by_cases hil : i < nq
    · have hii : (i : Int) < (nq : Int) := by omega
      have hi0 : (0 : Int) ≤ (i : Int) := by omega
      rcases hq with hq | ⟨gq, us2, rfl, hm2, hc2, ho2, hold2⟩
      · exfalso; have := HNQ.out; rw [hq] at this; simp at this; omega
      obtain ⟨⟨q, A, c⟩, hu⟩ : ∃ u, us[i]? = some u := ⟨_, List.getElem?_eq_getElem (by rw [HUL.out]; exact hil)⟩
      have hu2 : us2[i]? = some (q, A, c) := (hold2 i (Nat.le_refl _)).trans hu
      obtain ⟨hcc, hff⟩ := CRow.cell hc2 hu2
      dsimp only at hcc
      have q0 := hcc 0 _ rfl
      have q1 := hcc 1 _ rfl
      have q2 := hcc 2 _ rfl
      have q3 := hcc 3 _ rfl
      have q4 := hcc 4 _ rfl
      have q5 := hcc 5 _ rfl
      dsimp only [Nat.add_zero] at q0 q1 q2 q3 q4 q5
      have hmu := HMU.out (q, A, c) (List.mem_of_getElem? hu)
      dsimp only at hmu
      obtain ⟨hmc, hmA, vs, hvl, hrv, hvm⟩ := hmu
      have hqm := S3.out q (by rw [← HUS.out]; exact List.mem_map_of_mem (List.mem_of_getElem? hu))
      obtain ⟨n, hn⟩ : ∃ n, q.msgs.length = n := ⟨_, rfl⟩
      rw [hn] at q5 hmc hvl
      have hn6 : n ≤ 1000000 := by rw [← hn]; exact hqm.1
      have HN := Lib.hid hn; have HM2 := Lib.hid hm2; have HC2 := Lib.hid hc2; have HO2 := Lib.hid ho2; have HOLD := Lib.hid hold2; have HU := Lib.hid hu; have HU2 := Lib.hid hu2; have HMC := Lib.hid hmc; have HMA := Lib.hid hmA; have HRV := Lib.hid hrv; have HVM := Lib.hid hvm; have HVL := Lib.hid hvl; have HQM := Lib.hid hqm.2
      clear hn hm2 hc2 ho2 hold2 hu hu2 hmc hmA hrv hvm hvl hcc hff hqm
      go_wp2_with fail
      clear q0 q1 q2 q3 q4 q5
      have GQ := Lib.hid (blk_new wo #[.int .i64 q.ch.id, .int .i64 q.ch.fr, .int .i64 q.ch.to, .int .i64 q.ch.cap, .int .i64 q.ch.sz, .slice A n c] 36)
      have BQ := Lib.hid (ext1 wo (.cells #[.int .i64 q.ch.id, .int .i64 q.ch.fr, .int .i64 q.ch.to, .int .i64 q.ch.cap, .int .i64 q.ch.sz, .slice A n c] 36))
      have ZQ := Lib.hid (show (wo.alloc (.cells #[.int .i64 q.ch.id, .int .i64 q.ch.fr, .int .i64 q.ch.to, .int .i64 q.ch.cap, .int .i64 q.ch.sz, .slice A n c] 36)).heap.size = wo.heap.size + 1 by simp)
      generalize (wo.alloc (.cells #[.int .i64 q.ch.id, .int .i64 q.ch.fr, .int .i64 q.ch.to, .int .i64 q.ch.cap, .int .i64 q.ch.sz, .slice A n c] 36)) = wq at *
      have BA := Lib.hid (BR.out.trans (BQ.out.mono BR.out.size))
      have G2 := Lib.hid (blk_below G0.out BQ.out (blk_lt G0.out)); have G3 := Lib.hid (blk_below G1.out BQ.out (blk_lt G1.out)); have HY2 := Lib.hid (HY.out.below BQ.out)
      have HC3 := Lib.hid (HC2.out.below BQ.out HC2.out.lt)
      have HCM := Lib.hid (show ∀ W, Below wq.heap.size wq W → Calls Try.prog 29 #[.slice A n c] W fun e w' => ∃ v, e = .returned v ∧ w'.ownsRow W.heap.size 24 1 v n vs ∧ Below W.heap.size W w' from fun W hW => clone_ms A n c vs (by rw [Nat.mul_one]; exact HVL.out) (fun x hx => by obtain ⟨j, hj⟩ := List.getElem?_of_mem hx; have hjl := (List.getElem?_eq_some_iff.1 hj).1; obtain ⟨A1, c1, e1, _⟩ := HVM.out j _ (List.getElem?_eq_getElem (by rw [HN.out, ← HVL.out]; exact hjl)); rw [hj] at e1; injection e1 with e1; rw [e1]; rfl) HMA.out HMC.out hn6 W (HRV.out.below (BA.out.trans (hW.mono BA.out.size))))
      have a3 := blk_cell G2.out 3
      have a5 := blk_cell GQ.out 5
      obtain ⟨c6, f6⟩ := CRow.cell HC3.out HU2.out
      dsimp only at c6
      have c65 := c6 5 _ rfl
      have f65 := f6 (i * 6 + 5)
      clear c6 f6
      rw [HN.out] at c65
      go_region_with (go_at_call 29; refine (HCM.out _ (Below.refl _ _).drew).mono ?_; rintro e w5 ⟨v, rfl, hown, b5⟩; obtain ⟨A5, c5, rfl, hc5, hA5, _⟩ := own_form3 hown; have B5 := Lib.hid (show Below wq.heap.size wq w5 from ⟨b5.os, b5.tape, b5.output, b5.size, b5.block⟩); have a3b := (B5.out.cell (p := ⟨w.heap.size, 3, none⟩) (blk_lt G2.out)).trans a3; have c65b := (B5.out.cell (p := ⟨gq, i * 6 + 5, none⟩) HC3.out.lt).trans c65; have f65b := (B5.out.frozen (p := ⟨gq, i * 6 + 5, none⟩) HC3.out.lt).trans f65)
      all_goals
        clear a3 a5 c65 f65
        have hcq := HC3.out.2
        obtain ⟨csq, hgq, _⟩ := hcq
        have hb6 := below_set_both B5.out hgq HC3.out.lt (i * 6 + 5) (.slice A5 n c5)
        have kx := KeptX.set (blk_below hgq B5.out HC3.out.lt) (i * 6 + 5) (.slice A5 n c5)
        have MP0 := MPart.start (ls := q.msgs) (vs := vs) (c := c5) (A := A5) (lo := wq.heap.size) (w := w5) (by rw [HN.out]; exact hown)
        have MP := Lib.hid (show MPart wq.heap.size (w5.setCell ⟨gq, i * 6 + 5, none⟩ (.slice A5 n c5)) A5 q.msgs 0 from MP0.kept kx)
        have B6 := Lib.hid (show Below wq.heap.size (wq.setCell ⟨gq, i * 6 + 5, none⟩ (.slice A5 n c5)) (w5.setCell ⟨gq, i * 6 + 5, none⟩ (.slice A5 n c5)) from hb6)
        have HF5 := Lib.hid (And.intro hc5 hA5)
        obtain ⟨w6, hw6⟩ : ∃ z : World, z = (w5.setCell ⟨gq, i * 6 + 5, none⟩ (.slice A5 n c5)) := ⟨_, rfl⟩
        rw [← hw6] at MP B6 ⊢
        clear MP0 hown hc5 hA5 a3b c65b f65b b5 B5 hb6 kx hw6
        have QB6 := Lib.hid (blk_below (blk_far GQ.out (p := ⟨gq, i * 6 + 5, none⟩) (show wo.heap.size ≠ gq from fun e => by have := HC2.out.lt; omega) (.slice A5 n c5)) B6.out (blk_lt GQ.out))
        have G6 := Lib.hid (blk_below ((KeptX.set hgq (i * 6 + 5) (.slice A5 n c5)).2 _ _ _ (by decide) G2.out) B6.out (blk_lt G2.out))
        have c60 := ((CRow.set HC3.out HU2.out A5 c5).1.cell (k := i) (u := (q, A5, c5)) (by rw [List.getElem?_set, if_pos rfl]; exact if_pos (List.getElem?_eq_some_iff.1 HU2.out).1)).1 5 _ rfl
        dsimp only at c60
        rw [HN.out] at c60
        have C6 := Lib.hid ((B6.out.cell (p := ⟨gq, i * 6 + 5, none⟩) HC3.out.lt).trans c60)
        clear c60
        clear hgq
        go_upto_region 7 with fail
        have a5 := blk_cell QB6.out 5
        go_wp2_with fail
        clear a5
        go_loopw [34] (fun kv wk => ∃ k : Nat, k ≤ n ∧ kv = .int .i64 k ∧ Below wq.heap.size w6 wk ∧ MPart wq.heap.size wk A5 q.msgs k) (fun kv _ => n - (intOf kv).toNat)
        case atStart => exact ⟨0, Nat.zero_le _, rfl, Below.refl _ _, MP.out⟩
        case round =>
          obtain ⟨k, hk, rfl, hbk, hmp⟩ := hrel
          have BK := Lib.hid hbk; have MK := Lib.hid hmp; clear hbk hmp MP
          by_cases hkl : k < n
          · have hki : (k : Int) < (n : Int) := by omega
            have hk0 : (0 : Int) ≤ (k : Int) := by omega
            obtain ⟨l, hl⟩ : ∃ l, q.msgs[k]? = some l := ⟨_, List.getElem?_eq_getElem (by rw [HN.out]; exact hkl)⟩
            obtain ⟨Ak, ck, ek, hk1, hk2, hk3⟩ := HVM.out k l hl
            obtain ⟨bo, oo, eA, _⟩ := HRV.out.addr (by rw [HVL.out]; omega)
            have hb7 := (BA.out.setCell (p := ⟨gq, i * 6 + 5, none⟩) HC3.out.1 (.slice A5 n c5)).trans ((B6.out.trans BK.out).mono BA.out.size)
            have mo : wr.cell? ⟨bo, oo + k, none⟩ = some (.slice Ak l.length ck) := by have h := HRV.out; rw [eA] at h; exact (h.below hb7).cell ek
            have HCB := Lib.hid (fun W (hW : Below wr.heap.size wr W) => rows.clone Ak ck l hk2 hk1 (HQM.out l (List.mem_of_getElem? hl)) W ((hk3.below hb7).below hW))
            obtain ⟨gm, eA5, hgm, ⟨uo, cgm⟩, fgm, hgmlt⟩ := MK.out.open hl
            have a3 := (BK.out.cell (p := ⟨w.heap.size, 3, none⟩) (blk_lt G2.out)).trans (blk_cell G6.out 3)
            have c65 := (BK.out.cell (p := ⟨gq, i * 6 + 5, none⟩) HC3.out.lt).trans C6.out
            rw [eA5] at c65
            have HEA := Lib.hid eA5; have HL := Lib.hid hl
            clear eA5 hl ek hk1 hk2 hk3 hb7
            subst eA
            have hA5 := HEA.out
            subst hA5
            clear HEA
            go_wp2_with fail
            go_region_with (go_at_call 27; refine (HCB.out _ (Below.refl _ _).drew).mono ?_; rintro e w7 ⟨v, rfl, hv⟩; have hm7 := hv.msg; have b7 : Below _ _ w7 := (by obtain ⟨_, _, _, _, _, _, _, b⟩ := hv; exact b); obtain ⟨A7, c7, rfl, _⟩ := id hm7; have B7 := Lib.hid (show Below wr.heap.size wr w7 from ⟨b7.os, b7.tape, b7.output, b7.size, b7.block⟩); have hsz7 : wq.heap.size ≤ wr.heap.size := (by have h := BK.out.size; have h2 := B6.out.size; simp at h2; omega); have a3b := (B7.out.cell (p := ⟨w.heap.size, 3, none⟩) (Nat.lt_of_lt_of_le (blk_lt G2.out) hsz7)).trans a3; have c65b := (B7.out.cell (p := ⟨gq, i * 6 + 5, none⟩) (Nat.lt_of_lt_of_le HC3.out.lt hsz7)).trans c65; have cgmb := (B7.out.cell (p := ⟨gm, k, none⟩) hgmlt).trans cgm; have fgmb := (B7.out.frozen (p := ⟨gm, k, none⟩) hgmlt).trans fgm)
            all_goals
              have HM7 := Lib.hid (hm7.mono hsz7 (Nat.le_refl _))
              have HPUT := Lib.hid (MPart.put (MK.out.below B7.out) HL.out HM7.out).1
              have HBB := Lib.hid ((BK.out.trans (B7.out.mono hsz7)).setCell (p := ⟨gm, k, none⟩) hgm (.slice A7 l.length c7))
              clear a3 a3b c65 c65b cgm cgmb fgm fgmb mo b7 hv hm7
              go_wp2_with fail
              go_roundw
              case rel => exact ⟨k + 1, by omega, by go_num, HBB.out, HPUT.out⟩
              case measure => simp [intOf]; omega
          · have hkn : n = k := by omega
            subst hkn
            go_wp2_with fail
            go_roundw
            case rel => exact ⟨i + 1, by omega, by go_num, CInv.step BA.out G2.out G3.out HY2.out HM2.out HC3.out HU2.out HN.out BA.out.size (fun j x hj hx => (HO2.out j x hj hx).below BQ.out) HOLD.out (B6.out.trans BK.out) HF5.out.1 HF5.out.2 MK.out⟩
            case measure => simp [intOf]; omega
    · obtain rfl : nq = i := by omega
      have a0 := blk_cell G0.out 0
      have a1 := blk_cell G0.out 1
      have a2 := blk_cell G0.out 2
      have a3 := blk_cell G0.out 3
      have a4 := blk_cell G0.out 4
      go_wp2_with (refine wpList_store_at rfl 37 (.tmp 2) (.tmp 51) rfl (w.heap.size + 1) #[.int .i64 fr, .int .i64 tk, .int .i64 ver, .slice Bq nq dq, .slice C2 ni c2] rfl rfl 37 _ G1.out info_w rfl (by simp [Value.oneCell']) ?_)
      intro w3 hw3
      have B3 := Lib.hid (below_row BR.out (Nat.le_succ w.heap.size) #[.int .i64 fr, .int .i64 tk, .int .i64 ver, .slice Bq nq dq, .slice C2 ni c2])
      have G6 := Lib.hid (blk_row G1.out #[.int .i64 fr, .int .i64 tk, .int .i64 ver, .slice Bq nq dq, .slice C2 ni c2])
      have kr : KeptX 37 wo (wo.setRow (w.heap.size + 1) #[.int .i64 fr, .int .i64 tk, .int .i64 ver, .slice Bq nq dq, .slice C2 ni c2]) := ⟨by rw [size_row]; exact Nat.le_refl _, fun g' c2 t ht hg' => (setRow_other wo _ g' _ fun e => by rw [e, G1.out] at hg'; injection hg' with hg'; injection hg' with _ h2; exact ht h2.symm).trans hg'⟩
      have HO := Lib.hid (show WOut w.heap.size (wo.setRow (w.heap.size + 1) #[.int .i64 fr, .int .i64 tk, .int .i64 ver, .slice Bq nq dq, .slice C2 ni c2]) Bq dq qs C2 c2 inp from ⟨(CQs.row hq HNQ.out HF.out.1 HF.out.2).keptX (by decide) (by decide) (by decide) kr, HY.out.keptX (by decide) kr⟩)
      rw [← hw3.out] at B3 G6 HO
      clear hw3 kr
      go_wp2
      refine ret_row rfl (w.heap.size + 1) 37 _ _ rfl G6.out Try.underlying37 rfl info_w rfl ?_
      exact ⟨Bq, dq, C2, c2, rfl, HO.out, B3.out⟩
end Go.Proofs.Ythkkmnckidfmkaa.hy
