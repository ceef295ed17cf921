/- Calls of a partition: what the caller's small methods do; no condition. -/
import Derived.Test.YthkkmnckidfmkaaRows
import Derived.Test.YthkkmnckidfmkaaHyAB
import Derived.Test.YthkkmnckidfmkaaLibC
import Derived.BigRegion
namespace Go.Proofs.Ythkkmnckidfmkaa.hy
open Go Go.ChangeShapes Go.WideShapes Go.ChangeAt Go.RowKit Go.Proofs.Ythkkmnckidfmkaa.rows
/-- The caller as data. -/
def At (lo g : Nat) (w : World) (x : Pt) (fr tk ver : Int) (qs : List Qu) (inp : Msg) (y : Bool) : Prop :=
  ∃ Am cm B d Ci ci, Ato lo g w (cells20 x Am cm fr tk ver B qs.length d Ci inp.length ci y) Am cm x.mem B d qs Ci ci inp
/-- What a method does. -/
def MOut (lo g : Nat) (b : Bool) (x : Pt) (fr tk ver : Int) (qs : List Qu) (inp : Msg) (y : Bool) (w : World) (e : Ending) (w' : World) : Prop :=
  e = .returned (.bool b) ∧ Below lo w w' ∧ At lo g w' x fr tk ver qs inp y
theorem Ato.eq {lo g : Nat} {w : World} {cs cs' : Array Value} {Am : Option Addr} {cm : Nat} {l : Msg} {B : Option Addr} {d : Nat} {qs : List Qu} {Ci : Option Addr} {ci : Nat} {inp : Msg} (h : Ato lo g w cs Am cm l B d qs Ci ci inp) (e : cs = cs') : Ato lo g w cs' Am cm l B d qs Ci ci inp := e ▸ h
theorem Ato.input {lo g : Nat} {w : World} {cs cs' : Array Value} {Am : Option Addr} {cm : Nat} {l : Msg} {B : Option Addr} {d : Nat} {qs : List Qu} {Ci Ci' : Option Addr} {ci ci' : Nat} {inp inp' : Msg} (h : Ato lo g w cs Am cm l B d qs Ci ci inp) (e : cs = cs') (k : Bys lo w Ci' ci' inp') : Ato lo g w cs' Am cm l B d qs Ci' ci' inp' := ⟨e ▸ h.1, h.2.1, h.2.2.1, h.2.2.2.1, k⟩
theorem Bys.drop1 {lo bi oi ci : Nat} {w : World} {b : UInt8} {r : Msg} (h : Bys lo w (some ⟨bi, oi, none⟩) ci (b :: r)) : Bys lo w (some ⟨bi, oi + 1, none⟩) (ci - 1) r := by
  obtain ⟨h1, _, h3⟩ := h
  refine ⟨by simp at h1; omega, (fun h => by cases h), ?_⟩
  have := h3.dropAt 1
  rwa [bcs_drop] at this
set_option maxHeartbeats 2000000 in
theorem yield {lo g : Nat} {w : World} {x : Pt} {fr tk ver : Int} {qs : List Qu} {inp : Msg} {y : Bool} (h : At lo g w x fr tk ver qs inp y) : Calls Try.prog 36 #[.pointer (some ⟨g, 0, none⟩)] w (MOut lo g true x fr tk ver qs inp true w) := by
  obtain ⟨Am, cm, B, d, Ci, ci, h⟩ := h
  have H := Lib.hid h; clear h
  have c19 : w.cell? ⟨g, 19, none⟩ = some (.bool y) := H.out.cell 19
  have f19 : w.frozen? ⟨g, 19, none⟩ = false := H.out.frozen 19
  go_enter Try.func36, Try.ntmps36
  go_wp2
  go_ret
  exact ⟨rfl, (Below.refl _ _).setCell (p := ⟨g, 19, none⟩) H.out.2.1 _, Am, cm, B, d, Ci, ci, (H.out.set 19 (.bool true)).eq rfl⟩
set_option maxHeartbeats 2000000 in
theorem halt {lo g : Nat} {w : World} {x : Pt} {fr tk ver : Int} {qs : List Qu} {inp : Msg} {y : Bool} (h : At lo g w x fr tk ver qs inp y) : Calls Try.prog 42 #[.pointer (some ⟨g, 0, none⟩)] w (MOut lo g true { x with st := 1 } fr tk ver qs inp y w) := by
  obtain ⟨Am, cm, B, d, Ci, ci, h⟩ := h
  have H := Lib.hid h; clear h
  have c12 : w.cell? ⟨g, 12, none⟩ = some (.int .u8 x.st) := H.out.cell 12
  have f12 : w.frozen? ⟨g, 12, none⟩ = false := H.out.frozen 12
  go_enter Try.func42, Try.ntmps42
  go_wp2
  go_ret
  exact ⟨rfl, (Below.refl _ _).setCell (p := ⟨g, 12, none⟩) H.out.2.1 _, Am, cm, B, d, Ci, ci, (H.out.set 12 (.int .u8 1)).eq rfl⟩
set_option maxHeartbeats 2000000 in
theorem now {lo g : Nat} {w : World} {x : Pt} {fr tk ver : Int} {qs : List Qu} {inp : Msg} {y : Bool} (h : At lo g w x fr tk ver qs inp y) : Calls Try.prog 39 #[.pointer (some ⟨g, 0, none⟩)] w (MOut lo g true { x with r0 := fr % 4294967296, r1 := tk % 4294967296 } fr tk ver qs inp y w) := by
  obtain ⟨Am, cm, B, d, Ci, ci, h⟩ := h
  have H := Lib.hid h; clear h
  have c3 : w.cell? ⟨g, 3, none⟩ = some (.int .u32 x.r0) := H.out.cell 3
  have c4 : w.cell? ⟨g, 4, none⟩ = some (.int .u32 x.r1) := H.out.cell 4
  have c14 : w.cell? ⟨g, 14, none⟩ = some (.int .i64 fr) := H.out.cell 14
  have c15 : w.cell? ⟨g, 15, none⟩ = some (.int .i64 tk) := H.out.cell 15
  have f3 : w.frozen? ⟨g, 3, none⟩ = false := H.out.frozen 3
  have f4 : w.frozen? ⟨g, 4, none⟩ = false := H.out.frozen 4
  go_enter Try.func39, Try.ntmps39
  go_wp2_with fail
  go_region
  all_goals go_wp2
  all_goals go_ret
  all_goals exact ⟨rfl, (((Below.refl _ _).setCell (p := ⟨g, 3, none⟩) H.out.2.1 _).setCell (p := ⟨g, 4, none⟩) H.out.2.1 _).drew, Am, cm, B, d, Ci, ci, ((H.out.set 3 (.int .u32 (fr % 4294967296))).set 4 (.int .u32 (tk % 4294967296))).drew.eq rfl⟩
set_option maxHeartbeats 2000000 in
theorem self {lo g : Nat} {w : World} {x : Pt} {fr tk ver : Int} {qs : List Qu} {inp : Msg} {y : Bool} (h : At lo g w x fr tk ver qs inp y) : Calls Try.prog 41 #[.pointer (some ⟨g, 0, none⟩)] w (MOut lo g true { x with r0 := x.id % 4294967296, r1 := ver % 4294967296 } fr tk ver qs inp y w) := by
  obtain ⟨Am, cm, B, d, Ci, ci, h⟩ := h
  have H := Lib.hid h; clear h
  have c0 : w.cell? ⟨g, 0, none⟩ = some (.int .i64 x.id) := H.out.cell 0
  have c3 : w.cell? ⟨g, 3, none⟩ = some (.int .u32 x.r0) := H.out.cell 3
  have c4 : w.cell? ⟨g, 4, none⟩ = some (.int .u32 x.r1) := H.out.cell 4
  have c16 : w.cell? ⟨g, 16, none⟩ = some (.int .i64 ver) := H.out.cell 16
  have f3 : w.frozen? ⟨g, 3, none⟩ = false := H.out.frozen 3
  have f4 : w.frozen? ⟨g, 4, none⟩ = false := H.out.frozen 4
  go_enter Try.func41, Try.ntmps41
  go_wp2_with fail
  go_region
  all_goals go_wp2
  all_goals go_ret
  all_goals exact ⟨rfl, (((Below.refl _ _).setCell (p := ⟨g, 3, none⟩) H.out.2.1 _).setCell (p := ⟨g, 4, none⟩) H.out.2.1 _).drew, Am, cm, B, d, Ci, ci, ((H.out.set 3 (.int .u32 (x.id % 4294967296))).set 4 (.int .u32 (ver % 4294967296))).drew.eq rfl⟩
/-- What input does to the register and to the bytes. -/
def inpR (inp : Msg) : Int := match inp with | [] => 0 | b :: _ => (b.toNat : Int) + 1
set_option maxHeartbeats 2000000 in
theorem input {lo g : Nat} {w : World} {x : Pt} {fr tk ver : Int} {qs : List Qu} {inp : Msg} {y : Bool} (h : At lo g w x fr tk ver qs inp y) : Calls Try.prog 40 #[.pointer (some ⟨g, 0, none⟩)] w (MOut lo g true { x with r0 := inpR inp } fr tk ver qs (inp.drop 1) y w) := by
  obtain ⟨Am, cm, B, d, Ci, ci, h⟩ := h
  have H := Lib.hid h; clear h
  have c3 : w.cell? ⟨g, 3, none⟩ = some (.int .u32 x.r0) := H.out.cell 3
  have c18 : w.cell? ⟨g, 18, none⟩ = some (.slice Ci inp.length ci) := H.out.cell 18
  have f3 : w.frozen? ⟨g, 3, none⟩ = false := H.out.frozen 3
  have f18 : w.frozen? ⟨g, 18, none⟩ = false := H.out.frozen 18
  cases inp with
  | nil =>
    go_enter Try.func40, Try.ntmps40
    dsimp only [List.length_nil] at c18
    go_wp2
    go_ret
    exact ⟨rfl, (Below.refl _ _).setCell (p := ⟨g, 3, none⟩) H.out.2.1 _, Am, cm, B, d, Ci, ci, (H.out.set 3 (.int .u32 0)).eq rfl⟩
  | cons b r =>
    obtain ⟨bi, oi, rfl⟩ := RowIn.addr H.out.2.2.2.2.2.2 (by rw [bcs_length]; simp)
    have z0 : w.cell? ⟨bi, oi, none⟩ = some (.int .u8 (b.toNat : Int)) := by
      have := H.out.2.2.2.2.2.2.rd.cell (j := 0) (u := .int .u8 (b.toNat : Int)) rfl
      simpa using this
    have hlen := H.out.2.2.2.2.1
    obtain ⟨n, hn⟩ : ∃ n, r.length = n := ⟨_, rfl⟩
    have e1 : (b :: r).length = n + 1 := by simp [hn]
    rw [e1] at c18 hlen
    have HN := Lib.hid hn; have HE := Lib.hid e1; clear hn e1
    have hb0 : (0 : Int) ≤ (b.toNat : Int) := by omega
    have hb1 : (b.toNat : Int) ≤ 255 := by have := b.toNat_lt; omega
    have hn0 : (0 : Int) < (n : Int) + 1 := by omega
    have hne : ¬ (bi = g) := by
      intro e; subst e
      rcases H.out.2.2.2.2.2.2 with h | ⟨g', off, cs, e, _, _, hg, _⟩
      · have := bcs_length (b :: r); rw [h] at this; simp at this
      · injection e with e; injection e with e; subst e
        have := H.out.1
        rw [hg] at this; injection this with this; injection this with _ h2; exact absurd h2 (by decide)
    go_enter Try.func40, Try.ntmps40
    go_wp2_with fail
    have H1 := Lib.hid (H.out.set 3 (.int .u32 0))
    have B1 := Lib.hid ((Below.refl lo w).setCell (p := ⟨g, 3, none⟩) H.out.2.1 (.int .u32 0))
    have y0 : (w.setCell ⟨g, 3, none⟩ (.int .u32 0)).cell? ⟨bi, oi, none⟩ = some (.int .u8 (b.toNat : Int)) := by
      rw [cell_set_ne hne]
      exact z0
    generalize w.setCell ⟨g, 3, none⟩ (.int .u32 0) = w1 at *
    clear c3 c18 f3 f18 z0
    have c3 : w1.cell? ⟨g, 3, none⟩ = some (.int .u32 0) := H1.out.cell 3
    have c18 : w1.cell? ⟨g, 18, none⟩ = some (.slice (some ⟨bi, oi, none⟩) (n + 1) ci) := by rw [H1.out.cell 18, ← HE.out]; rfl
    have f3 : w1.frozen? ⟨g, 3, none⟩ = false := H1.out.frozen 3
    have f18 : w1.frozen? ⟨g, 18, none⟩ = false := H1.out.frozen 18
    by_cases hc1 : ci = 1
    · subst hc1
      have hn1 : n = 0 := by omega
      subst hn1
      obtain rfl : r = [] := List.eq_nil_of_length_eq_zero HN.out
      go_region
      all_goals
        have H2 := Lib.hid ((H1.out.set 3 (.int .u32 ((b.toNat : Int) + 1))).drew)
        have B2 := Lib.hid ((B1.out.setCell (p := ⟨g, 3, none⟩) H1.out.2.1 (.int .u32 ((b.toNat : Int) + 1))).drew)
        generalize (w1.setCell ⟨g, 3, none⟩ (.int .u32 ((b.toNat : Int) + 1))).drew = w2 at *
        clear c3 c18 f3 f18 y0
        have c18 : w2.cell? ⟨g, 18, none⟩ = some (.slice (some ⟨bi, oi, none⟩) 1 1) := H2.out.cell 18
        have f18 : w2.frozen? ⟨g, 18, none⟩ = false := H2.out.frozen 18
        go_wp2
        go_ret
        exact ⟨rfl, B2.out.setCell (p := ⟨g, 18, none⟩) H2.out.2.1 _, Am, cm, B, d, some ⟨bi, oi, none⟩, 0, (H2.out.set 18 (.slice (some ⟨bi, oi, none⟩) 0 0)).input rfl ⟨Nat.le_refl _, (fun h => by cases h), .inl rfl⟩⟩
    · have hc2 : 1 ≤ ci := by omega
      go_region
      all_goals
        have H2 := Lib.hid ((H1.out.set 3 (.int .u32 ((b.toNat : Int) + 1))).drew)
        have B2 := Lib.hid ((B1.out.setCell (p := ⟨g, 3, none⟩) H1.out.2.1 (.int .u32 ((b.toNat : Int) + 1))).drew)
        generalize (w1.setCell ⟨g, 3, none⟩ (.int .u32 ((b.toNat : Int) + 1))).drew = w2 at *
        clear c3 c18 f3 f18 y0
        have c18 : w2.cell? ⟨g, 18, none⟩ = some (.slice (some ⟨bi, oi, none⟩) (n + 1) ci) := by rw [H2.out.cell 18, ← HE.out]; rfl
        have f18 : w2.frozen? ⟨g, 18, none⟩ = false := H2.out.frozen 18
        go_wp2
        go_ret
        exact ⟨rfl, B2.out.setCell (p := ⟨g, 18, none⟩) H2.out.2.1 _, Am, cm, B, d, some ⟨bi, oi + 1, none⟩, ci - 1, (H2.out.set 18 (.slice (some ⟨bi, oi + 1, none⟩) n (ci - 1))).input (by rw [← HN.out]; rfl) (Bys.drop1 (b := b) (H2.out.set 18 (.slice (some ⟨bi, oi + 1, none⟩) n (ci - 1))).2.2.2.2)⟩
end Go.Proofs.Ythkkmnckidfmkaa.hy
