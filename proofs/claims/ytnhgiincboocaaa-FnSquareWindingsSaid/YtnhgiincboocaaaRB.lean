import Derived.Test.YtnhgiincboocaaaRA
import Derived.Test.YtnhgiincboocaaaPFnSquareWindingsx8
import Derived.Test.YtnhgiincboocaaaPFnSquareWindingsx3
namespace Go.Proofs.Ytnhgiincboocaaa.PFnSquareWindingsPure
open Go.RowKit Go.Proofs.Ytnhgiincboocaaa.PFnSquareWindings Go.Proofs.YtnhgiincboocaaaW.PrintWords Go.Proofs.YtnhgiincboocaaaW.PrintLast Go.Proofs.YtnhgiincboocaaaW.PrintMore Go.Proofs.Ytnhgiincboocaaa.PFnSquareWindingsPure
set_option linter.unusedVariables false
def rs (a b : Int) : Int := (b - a + 4) % 3 - 1
def clim (st tour : List Int) : Nat → Int
  | 0 => 0
  | j + 1 => clim st tour j + rs (rd st (rd tour (j : Int))) (rd st (rd tour ((j : Int) + 1)))
theorem rs_b (a b : Int) : -1 ≤ rs a b ∧ rs a b ≤ 1 := by unfold rs; omega
theorem clim_b (st tour : List Int) (j : Nat) : -(j : Int) ≤ clim st tour j ∧ clim st tour j ≤ j := by
  induction j with
  | zero => simp [clim]
  | succ j ih => have := rs_b (rd st (rd tour (j : Int))) (rd st (rd tour ((j : Int) + 1))); simp only [clim]; omega
theorem tmod3 {x : Int} (h : 0 ≤ x) : Int.tmod x 3 = x % 3 := Int.tmod_eq_emod_of_nonneg h
theorem impl_rise_eq (st : List Int) (a b : Int) (ha0 : 0 ≤ a) (ha : a < st.length) (hb0 : 0 ≤ b) (hb : b < st.length) (ra : 0 ≤ rd st a ∧ rd st a < 3) (rb : 0 ≤ rd st b ∧ rd st b < 3) :
    impl_rise.f st a b = some (rs (rd st a) (rd st b)) := by
  unfold impl_rise.f rs
  rw [if_pos hb0, if_pos hb, if_pos ha0, if_pos ha]
  generalize rd st a = x at *
  generalize rd st b = y at *
  rw [w64 (x := y - x) (by omega) (by omega), w64 (x := y - x + 3) (by omega) (by omega), tmod3 (by omega)]
  by_cases h1 : (y - x + 3) % 3 = 1
  · rw [if_pos h1]; congr 1; omega
  · rw [if_neg h1]
    by_cases h2 : (y - x + 3) % 3 = 2
    · rw [if_pos h2]; congr 1; omega
    · rw [if_neg h2]; congr 1; omega
theorem spec_rise_eq (x y : Int) (ra : 0 ≤ x ∧ x < 3) (rb : 0 ≤ y ∧ y < 3) : spec_l6Rise.f x y = some (rs x y) := by
  unfold spec_l6Rise.f rs
  rw [w64 (x := y - x) (by omega) (by omega), w64 (x := y - x + 3) (by omega) (by omega), w64 (x := y - x + 3 + 1) (by omega) (by omega), tmod3 (by omega), w64 (by omega) (by omega)]
  congr 1
  omega
theorem st_range {net st : List Int} (h : askB net 3 st = true) : net.length = st.length ∧ 1 ≤ st.length ∧ st.length ≤ 6 ∧ ∀ i : Int, 0 ≤ i → i < st.length → 0 ≤ rd st i ∧ rd st i < 3 := by
  simp only [askB, stB, Bool.and_eq_true, decide_eq_true_eq, allFrom_iff] at h
  refine ⟨h.2.2, h.2.1.2.2.1, h.2.1.2.2.2, fun i h0 h1 => ?_⟩
  obtain ⟨m, rfl⟩ := Int.eq_ofNat_of_zero_le h0
  exact h.2.1.1 m (by omega) (by omega)
theorem impl_climb_l0 (net st tour : List Int) (h : askB net 3 st = true) (hl : tour.length ≤ 12) (hin : ∀ j : Int, 0 ≤ j → j < tour.length → 0 ≤ rd tour j ∧ rd tour j < st.length) :
    ∀ (d n : Nat), n + 1 + d = tour.length → Ev (fun k => impl_ClimbOf.l0 k st tour (clim st tour n) ((n + 1 : Nat) : Int)) (clim st tour (tour.length - 1), true) := by
  obtain ⟨_, _, _, hr⟩ := st_range h
  intro d
  induction d with
  | zero =>
    intro n hn
    have e : n = tour.length - 1 := by omega
    refine ev_ret (fun k => ?_)
    simp only [impl_ClimbOf.l0]
    rw [if_neg (by omega), e]
  | succ d ih =>
    intro n hn
    refine ev_eq _ (fun k => ?_) (ih (n + 1) (by omega))
    simp only [impl_ClimbOf.l0]
    have e1 : wrap64 (((n + 1 : Nat) : Int) - 1) = (n : Int) := by rw [w64 (by omega) (by omega)]; omega
    have i1 := hin n (by omega) (by omega)
    have i2 := hin ((n + 1 : Nat) : Int) (by omega) (by omega)
    have cb := clim_b st tour n
    have rb := rs_b (rd st (rd tour (n : Int))) (rd st (rd tour ((n + 1 : Nat) : Int)))
    rw [if_pos (by omega), e1, if_pos (by omega), if_pos (by omega), if_pos (by omega), impl_rise_eq st _ _ i1.1 i1.2 i2.1 i2.2 (hr _ i1.1 i1.2) (hr _ i2.1 i2.2), Option.bind_some, w64 (x := _ + rs _ _) (by omega) (by omega), w64 (x := ((n + 1 : Nat) : Int) + 1) (by omega) (by omega)]
    rfl
theorem spec_climb_l0 (net st tour : List Int) (h : askB net 3 st = true) (hl : tour.length ≤ 12) (hin : ∀ j : Int, 0 ≤ j → j < tour.length → 0 ≤ rd tour j ∧ rd tour j < st.length) :
    ∀ (d n : Nat), n + 1 + d = tour.length → Ev (fun k => spec_ClimbOf.l0 k st tour (clim st tour n) ((n + 1 : Nat) : Int)) (clim st tour (tour.length - 1), true) := by
  obtain ⟨_, _, _, hr⟩ := st_range h
  intro d
  induction d with
  | zero =>
    intro n hn
    have e : n = tour.length - 1 := by omega
    refine ev_ret (fun k => ?_)
    simp only [spec_ClimbOf.l0]
    rw [if_neg (by omega), e]
  | succ d ih =>
    intro n hn
    refine ev_eq _ (fun k => ?_) (ih (n + 1) (by omega))
    simp only [spec_ClimbOf.l0]
    have e1 : wrap64 (((n + 1 : Nat) : Int) - 1) = (n : Int) := by rw [w64 (by omega) (by omega)]; omega
    have i1 := hin n (by omega) (by omega)
    have i2 := hin ((n + 1 : Nat) : Int) (by omega) (by omega)
    have cb := clim_b st tour n
    have rb := rs_b (rd st (rd tour (n : Int))) (rd st (rd tour ((n + 1 : Nat) : Int)))
    rw [if_pos (by omega), e1, if_pos (by omega), if_pos (by omega), if_pos i1.1, if_pos i1.2, if_pos (by omega), if_pos i2.1, if_pos i2.2, spec_rise_eq _ _ (hr _ i1.1 i1.2) (hr _ i2.1 i2.2), Option.bind_some, w64 (x := _ + rs _ _) (by omega) (by omega), w64 (x := ((n + 1 : Nat) : Int) + 1) (by omega) (by omega)]
    rfl
/-- A closed tour of a net. -/
structure Closed (net tour : List Int) : Prop where
  implOk : Ev (fun k => impl_TourOk.f k net tour) true
  specOk : Ev (fun k => spec_TourOk.f k net tour) true
  low : 1 ≤ tour.length
  high : tour.length ≤ 12
  inside : ∀ j : Int, 0 ≤ j → j < tour.length → 0 ≤ rd tour j ∧ rd tour j < net.length
  back : rd tour 0 = rd tour ((tour.length : Int) - 1)
theorem tdiv3_b (x : Int) : (0 ≤ x → 0 ≤ Int.tdiv x 3 ∧ Int.tdiv x 3 ≤ x) ∧ (x ≤ 0 → x ≤ Int.tdiv x 3 ∧ Int.tdiv x 3 ≤ 0) := by
  constructor
  · intro h
    rw [Int.tdiv_eq_ediv_of_nonneg h]
    omega
  · intro h
    obtain ⟨y, rfl⟩ : ∃ y, x = -y := ⟨-x, by omega⟩
    rw [Int.neg_tdiv, Int.tdiv_eq_ediv_of_nonneg (by omega)]
    omega
def wnd (st tour : List Int) : Int := Int.tdiv (clim st tour (tour.length - 1)) 3
theorem wnd_w (st tour : List Int) (h : tour.length ≤ 12) : wrap64 (Int.tdiv (clim st tour (tour.length - 1)) 3) = wnd st tour := by
  have := clim_b st tour (tour.length - 1)
  have := tdiv3_b (clim st tour (tour.length - 1))
  unfold wnd
  exact w64 (by omega) (by omega)
theorem impl_wind_ev (net st tour : List Int) (h : askB net 3 st = true) (hc : Closed net tour) : Ev (fun k => impl_WindingOf.f k net st tour) (wnd st tour, true) := by
  obtain ⟨hn, hs1, hs6, hr⟩ := st_range h
  have hin : ∀ j : Int, 0 ≤ j → j < tour.length → 0 ≤ rd tour j ∧ rd tour j < st.length := fun j h0 h1 => by have := hc.inside j h0 h1; omega
  have c1 : Ev (fun k => impl_ClimbOf.f k net st tour) (clim st tour (tour.length - 1), true) := by
    unfold impl_ClimbOf.f
    refine Ev.bind hc.implOk (Ev.congr (fun k => if_pos rfl) (Ev.bind (impl_asked_ev net 3 st (by omega)) ?_))
    rw [h]
    refine ev_eq _ (fun k => ?_) (impl_climb_l0 net st tour h hc.high hin (tour.length - 1) 0 (by have := hc.low; omega))
    simp only [impl_ClimbOf.j0]
    rw [if_neg (by decide)]
    rfl
  unfold impl_WindingOf.f
  have := hc.low
  have := hc.high
  refine Ev.bind c1 (ev_const (fun k => ?_))
  rw [if_pos rfl, if_pos (by omega), w64 (x := (tour.length : Int) - 1) (by omega) (by omega), if_pos (by omega), if_pos (by omega), if_pos hc.back, wnd_w st tour hc.high]
theorem spec_wind_ev (net st tour : List Int) (h : askB net 3 st = true) (hc : Closed net tour) : Ev (fun k => spec_WindingOf.f k net st tour) (wnd st tour, true) := by
  obtain ⟨hn, hs1, hs6, hr⟩ := st_range h
  have hin : ∀ j : Int, 0 ≤ j → j < tour.length → 0 ≤ rd tour j ∧ rd tour j < st.length := fun j h0 h1 => by have := hc.inside j h0 h1; omega
  have c1 : Ev (fun k => spec_ClimbOf.f k net st tour) (clim st tour (tour.length - 1), true) := by
    unfold spec_ClimbOf.f
    refine Ev.bind (spec_l3Ok_ev net 3 st (by omega)) ?_
    rw [h]
    refine Ev.congr (fun k => if_pos rfl) (Ev.bind hc.specOk ?_)
    refine ev_eq _ (fun k => ?_) (spec_climb_l0 net st tour h hc.high hin (tour.length - 1) 0 (by have := hc.low; omega))
    simp only [spec_ClimbOf.j0]
    rw [if_neg (by decide)]
    rfl
  unfold spec_WindingOf.f
  have := hc.low
  have := hc.high
  refine Ev.bind c1 (ev_const (fun k => ?_))
  rw [if_pos rfl, if_pos (by omega), w64 (x := (tour.length : Int) - 1) (by omega) (by omega), if_pos (by omega), if_pos (by omega), if_pos hc.back, wnd_w st tour hc.high]
def valid (r c : Int) : Prop := 1 ≤ r ∧ 1 ≤ c ∧ r ≤ 6 ∧ c ≤ 6 ∧ r * c ≤ 6
instance (r c : Int) : Decidable (valid r c) := by unfold valid; infer_instance
def tours (r c : Int) : List (List Int) := (spec_SquareTours.f 40 r c).getD []
def net_of (r c : Int) : List Int := YtnhgiincboocaaaGrid.grid r c
def tourChk (net t : List Int) : Bool :=
  decide (impl_TourOk.f 80 net t = some true) && decide (spec_TourOk.f 80 net t = some true) && decide (1 ≤ t.length) && decide (t.length ≤ 12) && allFrom (fun j => decide (0 ≤ rd t j) && decide (rd t j < net.length)) 0 t.length && decide (rd t 0 = rd t ((t.length : Int) - 1))
def gridChk (r c : Int) : Bool :=
  decide (spec_GridNet.f 40 r c = some (net_of r c)) && decide (spec_SquareTours.f 40 r c = some (tours r c)) && decide (impl_SquareTours.f 40 r c = some (tours r c)) && netI (net_of r c) && decide ((tours r c).length ≤ 2) && (tours r c).all (tourChk (net_of r c)) && decide (net_of r c ≠ []) && decide (((net_of r c).length : Int) = r * c)
theorem gridChk_all : ∀ r : Fin 6, ∀ c : Fin 6, (r.val + 1) * (c.val + 1) ≤ 6 → gridChk ((r.val + 1 : Nat) : Int) ((c.val + 1 : Nat) : Int) = true := by decide +kernel
theorem gridChk_of {r c : Int} (h : valid r c) : gridChk r c = true := by
  obtain ⟨h1, h2, h3, h4, h5⟩ := h
  obtain ⟨a, rfl⟩ := Int.eq_ofNat_of_zero_le (show 0 ≤ r by omega)
  obtain ⟨b, rfl⟩ := Int.eq_ofNat_of_zero_le (show 0 ≤ c by omega)
  have h6 : a * b ≤ 6 := by exact_mod_cast h5
  have := gridChk_all ⟨a - 1, by omega⟩ ⟨b - 1, by omega⟩ (by rw [show a - 1 + 1 = a by omega, show b - 1 + 1 = b by omega]; exact h6)
  simp only at this
  rwa [show a - 1 + 1 = a by omega, show b - 1 + 1 = b by omega] at this
theorem closed_of {net t : List Int} (h : tourChk net t = true) : Closed net t := by
  simp only [tourChk, Bool.and_eq_true, decide_eq_true_eq, allFrom_iff] at h
  obtain ⟨⟨⟨⟨⟨h1, h2⟩, h3⟩, h4⟩, h5⟩, h6⟩ := h
  refine ⟨Ev.of (fun k => impl_TourOk.mono _ _ k) h1, Ev.of (fun k => spec_TourOk.mono _ _ k) h2, h3, h4, fun j h0 hj => ?_, h6⟩
  obtain ⟨m, rfl⟩ := Int.eq_ofNat_of_zero_le h0
  exact h5 m (by omega) (by omega)
structure GridFacts (r c : Int) : Prop where
  net : Ev (fun k => spec_GridNet.f k r c) (net_of r c)
  toursS : Ev (fun k => spec_SquareTours.f k r c) (tours r c)
  toursI : Ev (fun k => impl_SquareTours.f k r c) (tours r c)
  ok : netI (net_of r c) = true
  few : (tours r c).length ≤ 2
  closed : ∀ t ∈ tours r c, Closed (net_of r c) t
  some_ : net_of r c ≠ []
  len : ((net_of r c).length : Int) = r * c
theorem gridFacts {r c : Int} (h : valid r c) : GridFacts r c := by
  have g := gridChk_of h
  simp only [gridChk, Bool.and_eq_true, decide_eq_true_eq, List.all_eq_true] at g
  obtain ⟨⟨⟨⟨⟨⟨⟨h1, h2⟩, h3⟩, h4⟩, h5⟩, h6⟩, h7⟩, h8⟩ := g
  exact ⟨Ev.of (fun k => spec_GridNet.mono _ _ k) h1, Ev.of (fun k => spec_SquareTours.mono _ _ k) h2, Ev.of (fun k => impl_SquareTours.mono _ _ k) h3, h4, h5, fun t ht => closed_of (h6 t ht), h7, h8⟩
theorem l12_eq (r c : Int) : spec_l12Ok.f r c = some (decide (valid r c)) := by
  unfold spec_l12Ok.f
  simp only [l1In_eq, Option.bind_some]
  by_cases h1 : 1 ≤ r ∧ r ≤ 6
  · rw [if_pos (by simp only [Bool.and_eq_true, decide_eq_true_eq]; exact h1)]
    by_cases h2 : 1 ≤ c ∧ c ≤ 6
    · rw [if_pos (by simp only [Bool.and_eq_true, decide_eq_true_eq]; exact h2)]
      have hb : 0 ≤ r * c ∧ r * c ≤ 36 := by
        rcases YtnhgiincboocaaaGrid.six h2.1 h2.2 with rfl | rfl | rfl | rfl | rfl | rfl <;> omega
      rw [w64 (by omega) (by omega)]
      congr 1
      refine decide_eq_decide.2 ?_
      unfold valid
      omega
    · rw [if_neg (by simp only [Bool.and_eq_true, decide_eq_true_eq]; exact h2), decide_eq_false (by unfold valid; omega)]
  · rw [if_neg (by simp only [Bool.and_eq_true, decide_eq_true_eq]; exact h1), decide_eq_false (by unfold valid; omega)]
theorem spec_grid_no {r c : Int} (h : ¬ valid r c) : Ev (fun k => spec_GridNet.f k r c) [] ∧ Ev (fun k => spec_SquareTours.f k r c) [] := by
  constructor
  · refine ev_eq _ (fun k => ?_) (ev_ret (g := fun k => spec_GridNet.j1 k r c [] 0 false) (r := []) (fun k => ?_))
    · unfold spec_GridNet.f
      simp only [spec_GridNet.l0, l12_eq, Option.bind_some]
      rw [if_neg (by rw [decide_eq_true_eq]; exact h)]
    · simp only [spec_GridNet.j1]
      rw [if_neg (by decide)]
  · refine ev_eq _ (fun k => ?_) (ev_ret (g := fun k => spec_SquareTours.j1 k r c [] 0 false) (r := []) (fun k => ?_))
    · unfold spec_SquareTours.f
      simp only [spec_SquareTours.l0, l12_eq, Option.bind_some]
      rw [if_neg (by rw [decide_eq_true_eq]; exact h)]
    · simp only [spec_SquareTours.j1]
      rw [if_neg (by decide)]
/-- What both return. -/
def sqw (r c : Int) (st : List Int) : List Int := if valid r c then (if askB (net_of r c) 3 st = true then (tours r c).map (wnd st) else []) else []
theorem sqw_length (r c : Int) (st : List Int) : (sqw r c st).length ≤ 2 := by
  unfold sqw
  split
  · rename_i h
    split
    · rw [List.length_map]; exact (gridFacts h).few
    · simp
  · simp
theorem rdL1_nat (l : List (List Int)) (n : Nat) : rd_L1 l (n : Int) = l.getD n [] := by simp [rd_L1]
theorem impl_sw_l0 (net st : List Int) (ts : List (List Int)) (h : askB net 3 st = true) (hc : ∀ t ∈ ts, Closed net t) (hf : ts.length ≤ 2) :
    ∀ (d n : Nat) (acc : List Int), n + d = ts.length → acc = (ts.take n).map (wnd st) → Ev (fun k => impl_SquareWindings_v.l0 k st net acc ts (ts.length : Int) (n : Int)) (ts.map (wnd st)) := by
  intro d
  induction d with
  | zero =>
    intro n acc hn ha
    refine ev_ret (fun k => ?_)
    simp only [impl_SquareWindings_v.l0]
    rw [if_neg (by omega), ha, List.take_of_length_le (by omega)]
  | succ d ih =>
    intro n acc hn ha
    have hlt : n < ts.length := by omega
    have hal : acc.length ≤ 2 := by rw [ha, List.length_map, List.length_take]; omega
    have e : acc ++ [wnd st (rd_L1 ts n)] = (ts.take (n + 1)).map (wnd st) := by
      rw [ha, rdL1_nat, List.getD_eq_getElem?_getD, List.getElem?_eq_getElem hlt, List.take_succ_eq_append_getElem hlt, List.map_append]
      rfl
    have hm : rd_L1 ts n ∈ ts := by rw [rdL1_nat, List.getD_eq_getElem?_getD, List.getElem?_eq_getElem hlt]; exact List.getElem_mem hlt
    refine ev_eq _ (fun k => ?_) (Ev.bind (impl_wind_ev net st _ h (hc _ hm)) (f := fun k bt => if acc.length < 17592186044416 then impl_SquareWindings_v.l0 k st net (acc ++ [bt.1]) ts (ts.length : Int) (wrap64 ((n : Int) + 1)) else none) ?_)
    · simp only [impl_SquareWindings_v.l0]
      rw [if_pos (by omega), if_pos (by omega), if_pos (by omega)]
    · refine Ev.congr (fun k => ?_) (ih (n + 1) _ (by omega) e)
      rw [if_pos (by omega), w64 (by omega) (by omega)]
      rfl
theorem impl_sw_ev (r c : Int) (st : List Int) (hl : st.length ≤ 1048576) : Ev (fun k => impl_SquareWindings.f k r c st) (sqw r c st) := by
  unfold impl_SquareWindings.f
  by_cases hv : valid r c
  · have g := gridFacts hv
    have hne : ¬ YtnhgiincboocaaaGrid.grid r c = [] := g.some_
    refine Ev.congr (fun k => if_neg hne) ?_
    unfold impl_SquareWindings_v.f impl_GridNet.f
    refine Ev.congr (fun k => Option.bind_some _ _) (Ev.bind (impl_asked_ev _ 3 st (by omega)) ?_)
    unfold sqw
    rw [if_pos hv]
    refine ev_if (fun h => ?_) (fun h => ?_)
    · rw [if_pos (show askB (net_of r c) 3 st = true from h)]
      refine Ev.bind g.toursI ?_
      exact impl_sw_l0 (net_of r c) st _ h g.closed g.few (tours r c).length 0 [] (by omega) rfl
    · rw [if_neg (by rw [show askB (net_of r c) 3 st = false from h]; decide)]
      exact Ev.now _
  · have he : YtnhgiincboocaaaGrid.grid r c = [] := by unfold YtnhgiincboocaaaGrid.grid; rw [if_neg (show ¬ (1 ≤ r ∧ 1 ≤ c ∧ r ≤ 6 ∧ c ≤ 6 ∧ r * c ≤ 6) from hv)]
    unfold sqw
    rw [if_neg hv]
    exact ev_const (fun k => if_pos he)
theorem spec_sw_l0 (net st : List Int) (ts : List (List Int)) (hl : st.length ≤ 1048576) (hc : ∀ t ∈ ts, Closed net t) (hf : ts.length ≤ 2) (h : askB net 3 st = true) :
    ∀ (d n : Nat) (acc : List Int), n + d = ts.length → acc = (ts.take n).map (wnd st) → Ev (fun k => spec_SquareWindings.l0 k st acc net ts (n : Int)) (ts.map (wnd st)) := by
  intro d
  induction d with
  | zero =>
    intro n acc hn ha
    refine ev_ret (fun k => ?_)
    simp only [spec_SquareWindings.l0]
    rw [if_neg (by omega), ha, List.take_of_length_le (by omega)]
  | succ d ih =>
    intro n acc hn ha
    have hlt : n < ts.length := by omega
    have hal : acc.length ≤ 2 := by rw [ha, List.length_map, List.length_take]; omega
    have e : acc ++ [wnd st (rd_L1 ts n)] = (ts.take (n + 1)).map (wnd st) := by
      rw [ha, rdL1_nat, List.getD_eq_getElem?_getD, List.getElem?_eq_getElem hlt, List.take_succ_eq_append_getElem hlt, List.map_append]
      rfl
    have hm : rd_L1 ts n ∈ ts := by rw [rdL1_nat, List.getD_eq_getElem?_getD, List.getElem?_eq_getElem hlt]; exact List.getElem_mem hlt
    refine ev_eq _ (fun k => ?_) (Ev.bind (spec_l3Ok_ev net 3 st (by omega)) (f := fun k b => if b = true then (if 0 ≤ (n : Int) then ((spec_WindingOf.f k net st (rd_L1 ts n)).bind fun bt => (if acc.length < 17592186044416 then spec_SquareWindings.l0 k st (acc ++ [bt.1]) net ts (wrap64 ((n : Int) + 1)) else none)) else none) else some acc) ?_)
    · simp only [spec_SquareWindings.l0]
      rw [if_pos (by omega)]
    · rw [h]
      refine Ev.congr (fun k => if_pos rfl) (Ev.congr (fun k => if_pos (by omega)) (Ev.bind (spec_wind_ev net st _ h (hc _ hm)) ?_))
      refine Ev.congr (fun k => ?_) (ih (n + 1) _ (by omega) e)
      rw [if_pos (by omega), w64 (by omega) (by omega)]
      rfl
theorem spec_sw_ev (r c : Int) (st : List Int) (hl : st.length ≤ 1048576) : Ev (fun k => spec_SquareWindings.f k r c st) (sqw r c st) := by
  unfold spec_SquareWindings.f sqw
  by_cases hv : valid r c
  · have g := gridFacts hv
    rw [if_pos hv]
    refine Ev.bind g.net (Ev.bind g.toursS ?_)
    by_cases h : askB (net_of r c) 3 st = true
    · rw [if_pos h]
      exact spec_sw_l0 (net_of r c) st _ hl g.closed g.few h (tours r c).length 0 [] (by omega) rfl
    · rw [if_neg h]
      cases ht : tours r c with
      | nil =>
        refine ev_ret (fun k => ?_)
        simp only [spec_SquareWindings.l0]
        rw [if_neg (by simp)]
      | cons t ts =>
        refine ev_eq _ (fun k => ?_) (Ev.bind (spec_l3Ok_ev (net_of r c) 3 st (by omega)) (f := fun k b => if b = true then (if 0 ≤ (0 : Int) then ((spec_WindingOf.f k (net_of r c) st (rd_L1 (t :: ts) 0)).bind fun bt => (if ([] : List Int).length < 17592186044416 then spec_SquareWindings.l0 k st ([] ++ [bt.1]) (net_of r c) (t :: ts) (wrap64 (0 + 1)) else none)) else none) else some []) ?_)
        · simp only [spec_SquareWindings.l0]
          rw [if_pos (by simp)]
        · rw [Bool.eq_false_iff.2 h]
          exact ev_const (fun k => if_neg (by decide))
  · rw [if_neg hv]
    obtain ⟨h1, h2⟩ := spec_grid_no hv
    refine Ev.bind h1 (Ev.bind h2 (ev_ret (fun k => ?_)))
    simp only [spec_SquareWindings.l0]
    rw [if_neg (by simp)]
def allB : Nat → (List Int → Bool) → Bool
  | 0, p => p []
  | n + 1, p => allB n (fun l => p (0 :: l)) && allB n (fun l => p (1 :: l)) && allB n (fun l => p (2 :: l))
theorem allB_of : ∀ (n : Nat) (p : List Int → Bool), allB n p = true → ∀ st : List Int, st.length = n → InK 3 st → p st = true := by
  intro n
  induction n with
  | zero => intro p h st hl _; rw [List.length_eq_zero_iff.1 hl]; exact h
  | succ n ih =>
    intro p h st hl hi
    cases st with
    | nil => simp at hl
    | cons x l =>
      simp only [allB, Bool.and_eq_true] at h
      have hx := hi x List.mem_cons_self
      have hl' : l.length = n := by simpa using hl
      have hi' : InK 3 l := fun y hy => hi y (List.mem_cons_of_mem _ hy)
      have : x = 0 ∨ x = 1 ∨ x = 2 := by omega
      rcases this with rfl | rfl | rfl
      · exact ih _ h.1.1 l hl' hi'
      · exact ih _ h.1.2 l hl' hi'
      · exact ih _ h.2 l hl' hi'
def heights (net st : List Int) : Option (List Int × Bool) := impl_HeightRow.l0 200 net st (List.replicate net.length 0) (List.replicate net.length false) (net.length : Int) 0
def zeros (row : List Int) : Bool := row.all (fun x => x == 0)
def chk (net : List Int) (ts : List (List Int)) (border : List Int) (st : List Int) : Bool :=
  (match heights net st with
   | some (_, b) => b == zeros (ts.map (wnd st))
   | none => false) && (ts.map (wnd st)).all (fun x => decide (-1 ≤ x) && decide (x ≤ 1)) && (border.isEmpty || wnd st border == (ts.map (wnd st)).foldl (· + ·) 0)
theorem flat22 : allB 4 (chk [6, 9, 9, 6] [[0, 1, 3, 2, 0]] [0, 1, 3, 2, 0]) = true := by decide +kernel
end Go.Proofs.Ytnhgiincboocaaa.PFnSquareWindingsPure
