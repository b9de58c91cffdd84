import Derived.Test.YtnhgiincboocaaaQA
namespace Go.Proofs.Ytnhgiincboocaaa.PFnExactSquareWindingsPure
open Go.RowKit Go.Proofs.Ytnhgiincboocaaa.PFnExactSquareWindings Go.Proofs.YtnhgiincboocaaaW.PrintWords Go.Proofs.YtnhgiincboocaaaW.PrintLast Go.Proofs.YtnhgiincboocaaaW.PrintMore Go.Proofs.Ytnhgiincboocaaa.PFnExactSquareWindingsPure
set_option linter.unusedVariables false
def rs (a b : Int) : Int := (b - a + 4) % 3 - 1
def clim (st tour : List Int) : Nat → Int
  | 0 => 0
  | j + 1 => clim st tour j + rs (rd st (rd tour (j : Int))) (rd st (rd tour ((j : Int) + 1)))
theorem rs_b (a b : Int) : -1 ≤ rs a b ∧ rs a b ≤ 1 := by unfold rs; omega
theorem clim_b (st tour : List Int) (j : Nat) : -(j : Int) ≤ clim st tour j ∧ clim st tour j ≤ j := by
  induction j with
  | zero => simp [clim]
  | succ j ih => have := rs_b (rd st (rd tour (j : Int))) (rd st (rd tour ((j : Int) + 1))); simp only [clim]; omega
theorem tmod3 {x : Int} (h : 0 ≤ x) : Int.tmod x 3 = x % 3 := Int.tmod_eq_emod_of_nonneg h
theorem impl_rise_eq (st : List Int) (a b : Int) (ha0 : 0 ≤ a) (ha : a < st.length) (hb0 : 0 ≤ b) (hb : b < st.length) (ra : 0 ≤ rd st a ∧ rd st a < 3) (rb : 0 ≤ rd st b ∧ rd st b < 3) :
    impl_rise.f st a b = some (rs (rd st a) (rd st b)) := by
  unfold impl_rise.f rs
  rw [if_pos hb0, if_pos hb, if_pos ha0, if_pos ha]
  generalize rd st a = x at *
  generalize rd st b = y at *
  rw [w64 (x := y - x) (by omega) (by omega), w64 (x := y - x + 3) (by omega) (by omega), tmod3 (by omega)]
  by_cases h1 : (y - x + 3) % 3 = 1
  · rw [if_pos h1]; congr 1; omega
  · rw [if_neg h1]
    by_cases h2 : (y - x + 3) % 3 = 2
    · rw [if_pos h2]; congr 1; omega
    · rw [if_neg h2]; congr 1; omega
theorem spec_rise_eq (x y : Int) (ra : 0 ≤ x ∧ x < 3) (rb : 0 ≤ y ∧ y < 3) : spec_l6Rise.f x y = some (rs x y) := by
  unfold spec_l6Rise.f rs
  rw [w64 (x := y - x) (by omega) (by omega), w64 (x := y - x + 3) (by omega) (by omega), w64 (x := y - x + 3 + 1) (by omega) (by omega), tmod3 (by omega), w64 (by omega) (by omega)]
  congr 1
  omega
theorem st_range {net st : List Int} (h : askB net 3 st = true) : net.length = st.length ∧ 1 ≤ st.length ∧ st.length ≤ 6 ∧ ∀ i : Int, 0 ≤ i → i < st.length → 0 ≤ rd st i ∧ rd st i < 3 := by
  simp only [askB, stB, Bool.and_eq_true, decide_eq_true_eq, allFrom_iff] at h
  refine ⟨h.2.2, h.2.1.2.2.1, h.2.1.2.2.2, fun i h0 h1 => ?_⟩
  obtain ⟨m, rfl⟩ := Int.eq_ofNat_of_zero_le h0
  exact h.2.1.1 m (by omega) (by omega)
theorem impl_climb_l0 (net st tour : List Int) (h : askB net 3 st = true) (hl : tour.length ≤ 12) (hin : ∀ j : Int, 0 ≤ j → j < tour.length → 0 ≤ rd tour j ∧ rd tour j < st.length) :
    ∀ (d n : Nat), n + 1 + d = tour.length → Ev (fun k => impl_ClimbOf.l0 k st tour (clim st tour n) ((n + 1 : Nat) : Int)) (clim st tour (tour.length - 1), true) := by
  obtain ⟨_, _, _, hr⟩ := st_range h
  intro d
  induction d with
  | zero =>
    intro n hn
    have e : n = tour.length - 1 := by omega
    refine ev_ret (fun k => ?_)
    simp only [impl_ClimbOf.l0]
    rw [if_neg (by omega), e]
  | succ d ih =>
    intro n hn
    refine ev_eq _ (fun k => ?_) (ih (n + 1) (by omega))
    simp only [impl_ClimbOf.l0]
    have e1 : wrap64 (((n + 1 : Nat) : Int) - 1) = (n : Int) := by rw [w64 (by omega) (by omega)]; omega
    have i1 := hin n (by omega) (by omega)
    have i2 := hin ((n + 1 : Nat) : Int) (by omega) (by omega)
    have cb := clim_b st tour n
    have rb := rs_b (rd st (rd tour (n : Int))) (rd st (rd tour ((n + 1 : Nat) : Int)))
    rw [if_pos (by omega), e1, if_pos (by omega), if_pos (by omega), if_pos (by omega), impl_rise_eq st _ _ i1.1 i1.2 i2.1 i2.2 (hr _ i1.1 i1.2) (hr _ i2.1 i2.2), Option.bind_some, w64 (x := _ + rs _ _) (by omega) (by omega), w64 (x := ((n + 1 : Nat) : Int) + 1) (by omega) (by omega)]
    rfl
theorem spec_climb_l0 (net st tour : List Int) (h : askB net 3 st = true) (hl : tour.length ≤ 12) (hin : ∀ j : Int, 0 ≤ j → j < tour.length → 0 ≤ rd tour j ∧ rd tour j < st.length) :
    ∀ (d n : Nat), n + 1 + d = tour.length → Ev (fun k => spec_ClimbOf.l0 k st tour (clim st tour n) ((n + 1 : Nat) : Int)) (clim st tour (tour.length - 1), true) := by
  obtain ⟨_, _, _, hr⟩ := st_range h
  intro d
  induction d with
  | zero =>
    intro n hn
    have e : n = tour.length - 1 := by omega
    refine ev_ret (fun k => ?_)
    simp only [spec_ClimbOf.l0]
    rw [if_neg (by omega), e]
  | succ d ih =>
    intro n hn
    refine ev_eq _ (fun k => ?_) (ih (n + 1) (by omega))
    simp only [spec_ClimbOf.l0]
    have e1 : wrap64 (((n + 1 : Nat) : Int) - 1) = (n : Int) := by rw [w64 (by omega) (by omega)]; omega
    have i1 := hin n (by omega) (by omega)
    have i2 := hin ((n + 1 : Nat) : Int) (by omega) (by omega)
    have cb := clim_b st tour n
    have rb := rs_b (rd st (rd tour (n : Int))) (rd st (rd tour ((n + 1 : Nat) : Int)))
    rw [if_pos (by omega), e1, if_pos (by omega), if_pos (by omega), if_pos i1.1, if_pos i1.2, if_pos (by omega), if_pos i2.1, if_pos i2.2, spec_rise_eq _ _ (hr _ i1.1 i1.2) (hr _ i2.1 i2.2), Option.bind_some, w64 (x := _ + rs _ _) (by omega) (by omega), w64 (x := ((n + 1 : Nat) : Int) + 1) (by omega) (by omega)]
    rfl
/-- A closed tour of a net. -/
structure Closed (net tour : List Int) : Prop where
  implOk : Ev (fun k => impl_TourOk.f k net tour) true
  specOk : Ev (fun k => spec_TourOk.f k net tour) true
  low : 1 ≤ tour.length
  high : tour.length ≤ 12
  inside : ∀ j : Int, 0 ≤ j → j < tour.length → 0 ≤ rd tour j ∧ rd tour j < net.length
  back : rd tour 0 = rd tour ((tour.length : Int) - 1)
theorem tdiv3_b (x : Int) : (0 ≤ x → 0 ≤ Int.tdiv x 3 ∧ Int.tdiv x 3 ≤ x) ∧ (x ≤ 0 → x ≤ Int.tdiv x 3 ∧ Int.tdiv x 3 ≤ 0) := by
  constructor
  · intro h
    rw [Int.tdiv_eq_ediv_of_nonneg h]
    omega
  · intro h
    obtain ⟨y, rfl⟩ : ∃ y, x = -y := ⟨-x, by omega⟩
    rw [Int.neg_tdiv, Int.tdiv_eq_ediv_of_nonneg (by omega)]
    omega
def wnd (st tour : List Int) : Int := Int.tdiv (clim st tour (tour.length - 1)) 3
theorem wnd_w (st tour : List Int) (h : tour.length ≤ 12) : wrap64 (Int.tdiv (clim st tour (tour.length - 1)) 3) = wnd st tour := by
  have := clim_b st tour (tour.length - 1)
  have := tdiv3_b (clim st tour (tour.length - 1))
  unfold wnd
  exact w64 (by omega) (by omega)
theorem impl_wind_ev (net st tour : List Int) (h : askB net 3 st = true) (hc : Closed net tour) : Ev (fun k => impl_WindingOf.f k net st tour) (wnd st tour, true) := by
  obtain ⟨hn, hs1, hs6, hr⟩ := st_range h
  have hin : ∀ j : Int, 0 ≤ j → j < tour.length → 0 ≤ rd tour j ∧ rd tour j < st.length := fun j h0 h1 => by have := hc.inside j h0 h1; omega
  have c1 : Ev (fun k => impl_ClimbOf.f k net st tour) (clim st tour (tour.length - 1), true) := by
    unfold impl_ClimbOf.f
    refine Ev.bind hc.implOk (Ev.congr (fun k => if_pos rfl) (Ev.bind (impl_asked_ev net 3 st (by omega)) ?_))
    rw [h]
    refine ev_eq _ (fun k => ?_) (impl_climb_l0 net st tour h hc.high hin (tour.length - 1) 0 (by have := hc.low; omega))
    simp only [impl_ClimbOf.j0]
    rw [if_neg (by decide)]
    rfl
  unfold impl_WindingOf.f
  have := hc.low
  have := hc.high
  refine Ev.bind c1 (ev_const (fun k => ?_))
  rw [if_pos rfl, if_pos (by omega), w64 (x := (tour.length : Int) - 1) (by omega) (by omega), if_pos (by omega), if_pos (by omega), if_pos hc.back, wnd_w st tour hc.high]
theorem spec_wind_ev (net st tour : List Int) (h : askB net 3 st = true) (hc : Closed net tour) : Ev (fun k => spec_WindingOf.f k net st tour) (wnd st tour, true) := by
  obtain ⟨hn, hs1, hs6, hr⟩ := st_range h
  have hin : ∀ j : Int, 0 ≤ j → j < tour.length → 0 ≤ rd tour j ∧ rd tour j < st.length := fun j h0 h1 => by have := hc.inside j h0 h1; omega
  have c1 : Ev (fun k => spec_ClimbOf.f k net st tour) (clim st tour (tour.length - 1), true) := by
    unfold spec_ClimbOf.f
    refine Ev.bind (spec_l3Ok_ev net 3 st (by omega)) ?_
    rw [h]
    refine Ev.congr (fun k => if_pos rfl) (Ev.bind hc.specOk ?_)
    refine ev_eq _ (fun k => ?_) (spec_climb_l0 net st tour h hc.high hin (tour.length - 1) 0 (by have := hc.low; omega))
    simp only [spec_ClimbOf.j0]
    rw [if_neg (by decide)]
    rfl
  unfold spec_WindingOf.f
  have := hc.low
  have := hc.high
  refine Ev.bind c1 (ev_const (fun k => ?_))
  rw [if_pos rfl, if_pos (by omega), w64 (x := (tour.length : Int) - 1) (by omega) (by omega), if_pos (by omega), if_pos (by omega), if_pos hc.back, wnd_w st tour hc.high]
end Go.Proofs.Ytnhgiincboocaaa.PFnExactSquareWindingsPure
