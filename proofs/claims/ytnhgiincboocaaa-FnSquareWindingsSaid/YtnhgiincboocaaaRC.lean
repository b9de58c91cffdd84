import Derived.Test.YtnhgiincboocaaaRB
import Derived.Test.YtnhgiincboocaaaPFnSquareWindingsx11
namespace Go.Proofs.Ytnhgiincboocaaa.PFnSquareWindingsPure
open Go.RowKit Go.Proofs.Ytnhgiincboocaaa.PFnSquareWindings Go.Proofs.YtnhgiincboocaaaW.PrintWords Go.Proofs.YtnhgiincboocaaaW.PrintLast Go.Proofs.YtnhgiincboocaaaW.PrintMore Go.Proofs.Ytnhgiincboocaaa.PFnSquareWindingsPure
set_option linter.unusedVariables false
theorem case22 : allB 4 (chk [6, 9, 9, 6] [[0, 1, 3, 2, 0]] [0, 1, 3, 2, 0]) = true := by decide +kernel
theorem case23 : allB 6 (chk [10, 21, 34, 17, 42, 20] [[0, 1, 4, 3, 0], [1, 2, 5, 4, 1]] [0, 1, 2, 5, 4, 3, 0]) = true := by decide +kernel
theorem case32 : allB 6 (chk [6, 9, 25, 38, 36, 24] [[0, 1, 3, 2, 0], [2, 3, 5, 4, 2]] [0, 1, 3, 5, 4, 2, 0]) = true := by decide +kernel
theorem case14 : allB 4 (chk [2, 5, 10, 4] [] []) = true := by decide +kernel
theorem case51 : allB 5 (chk [2, 5, 10, 20, 8] [] []) = true := by decide +kernel
theorem case11 : allB 1 (chk [0] [] []) = true := by decide +kernel
theorem flat_ev {net st : List Int} (h : askB net 3 st = true) {x : List Int × Bool} (hh : heights net st = some x) : Ev (fun k => impl_FlatOk.f k net st) x.2 := by
  obtain ⟨hn, hs1, hs6, _⟩ := st_range h
  unfold impl_FlatOk.f
  have e : Ev (fun k => impl_HeightRow.f k net st) x := by
    unfold impl_HeightRow.f
    refine Ev.bind (impl_asked_ev net 3 st (by omega)) ?_
    rw [h]
    refine Ev.congr (fun k => if_pos rfl) (Ev.congr (fun k => if_pos (by omega)) (Ev.congr (fun k => if_pos (by omega)) (Ev.congr (fun k => if_pos (by omega)) ?_)))
    have := Ev.of (g := fun k => impl_HeightRow.l0 k net st (List.replicate net.length 0) (List.replicate net.length false) (net.length : Int) 0) (fun k => (impl_HeightRow.mono_l k).1 _ _ _ _ _ _) (k := 200) hh
    simpa using this
  exact Ev.bind e (Ev.now _)
theorem wind_none {net st : List Int} (hok : netI net = true) : Ev (fun k => impl_WindingOf.f k net st []) (0, false) := by
  unfold impl_WindingOf.f
  have t : Ev (fun k => impl_TourOk.f k net []) false := by
    unfold impl_TourOk.f
    refine Ev.bind (impl_net_ev net) ?_
    rw [hok]
    refine Ev.congr (fun k => if_pos rfl) (Ev.congr (fun k => if_pos (by simp)) (ev_ret (fun k => ?_)))
    simp only [impl_TourOk.j0]
    rw [if_pos trivial]
  have c : Ev (fun k => impl_ClimbOf.f k net st []) (0, false) := by
    unfold impl_ClimbOf.f
    refine Ev.bind t (Ev.congr (fun k => if_neg (by decide)) (ev_ret (fun k => ?_)))
    simp only [impl_ClimbOf.j0]
    rw [if_pos trivial]
  exact Ev.bind c (ev_const (fun k => if_neg (show ¬ (false = true) by decide)))
def BorderFits (r c : Int) (net border : List Int) : Prop := (border = [] ∧ (r < 2 ∨ c < 2)) ∨ (Closed net border ∧ ¬ r < 2 ∧ ¬ c < 2 ∧ border.isEmpty = false)
theorem sum_cons (l : List Int) (x s : Int) : (x :: l).foldl (· + ·) s = l.foldl (· + ·) (s + x) := rfl
theorem law_l0 {r c : Int} {net : List Int} {ts : List (List Int)} {border st : List Int} (hok : netI net = true) (hB : Ev (fun k => impl_BorderTour.f k r c) border) (hf : BorderFits r c net border)
    (hchk : chk net ts border st = true) (hask : askB net 3 st = true) (hts : ts.length ≤ 2) :
    ∀ (suf pre : List Int) (s : Int) (z : Bool), pre ++ suf = ts.map (wnd st) → s = pre.foldl (· + ·) 0 → z = zeros pre → -2 ≤ s - 0 - pre.length + 2 * pre.length → s ≤ pre.length → -(pre.length : Int) ≤ s →
      Ev (fun k => laws_FnSquareWindings.l0 k r c st (ts.map (wnd st)) net s z (pre.length : Int)) true := by
  simp only [chk, Bool.and_eq_true] at hchk
  obtain ⟨⟨h1, h2⟩, h3⟩ := hchk
  have hrow : (ts.map (wnd st)).length ≤ 2 := by rw [List.length_map]; exact hts
  intro suf
  induction suf with
  | nil =>
    intro pre s z hp hs hz _ _ _
    rw [List.append_nil] at hp
    rw [← hp] at h1 h2 h3 ⊢
    rw [← hz] at h1
    rw [← hs] at h3
    cases hh : heights net st with
    | none => rw [hh] at h1; simp at h1
    | some x =>
      rw [hh] at h1
      have hx : x.2 = z := by simpa using h1
      have F := flat_ev hask hh
      rw [hx] at F
      have A := alive_ev
      have fin : Ev (fun k => (impl_FlatOk.f k net st).bind fun t => (if (t == z) = true then ((laws_alive.f k).bind fun t385 => (some t385)) else (some false))) true :=
        Ev.bind F (Ev.congr (fun k => if_pos (by simp)) (Ev.bind A (Ev.now _)))
      refine ev_eq ?f (fun k => ?h) ?g
      case h =>
        simp only [laws_FnSquareWindings.l0]
        rw [if_neg (by omega)]
      case g =>
        refine Ev.bind hB ?_
        rcases hf with ⟨hb, hrc⟩ | ⟨hcl, hr2, hc2, hne⟩
        · subst hb
          refine Ev.bind (wind_none hok) (Ev.congr (fun k => if_neg (show ¬ (false = true) by decide)) ?_)
          by_cases hr2 : r < 2
          · exact Ev.congr (fun k => if_pos hr2) fin
          · rcases hrc with hrc | hrc
            · exact absurd hrc hr2
            · exact Ev.congr (fun k => if_neg hr2) (Ev.congr (fun k => if_pos hrc) fin)
        · have e : wnd st border = s := by
            rw [hne] at h3
            simpa using h3
          refine Ev.bind (impl_wind_ev net st border hask hcl) (Ev.congr (fun k => if_pos rfl) (Ev.congr (fun k => if_pos e) ?_))
          exact Ev.congr (fun k => if_neg hr2) (Ev.congr (fun k => if_neg hc2) fin)
  | cons x suf ih =>
    intro pre s z hp hs hz _ b1 b2
    have hx : rd (ts.map (wnd st)) (pre.length : Int) = x := by
      rw [rd_nat, List.getD_eq_getElem?_getD, ← hp, List.getElem?_append_right (Nat.le_refl _)]
      simp
    have hlen : pre.length + (suf.length + 1) = (ts.map (wnd st)).length := by rw [← hp]; simp
    have hxr : -1 ≤ x ∧ x ≤ 1 := by
      rw [List.all_eq_true] at h2
      have := h2 x (by rw [← hp]; simp)
      simpa using this
    have hl : pre.length < (ts.map (wnd st)).length := by omega
    have next := ih (pre ++ [x]) (s + x) (z && (x == 0)) (by rw [← hp]; simp) (by rw [List.foldl_append, ← hs]; rfl) (by simp [hz, zeros]) (by rw [List.length_append, List.length_singleton]; omega) (by rw [List.length_append, List.length_singleton]; omega) (by rw [List.length_append, List.length_singleton]; omega)
    rw [List.length_append, List.length_singleton] at next
    refine ev_eq _ (fun k => ?_) next
    simp only [laws_FnSquareWindings.l0]
    rw [if_pos (by omega), if_pos (by omega), hx, if_neg (by omega), if_neg (by omega), w64 (x := s + x) (by omega) (by omega), w64 (x := (pre.length : Int) + 1) (by omega) (by omega)]
    cases z
    · rw [if_neg (by decide)]; rfl
    · rw [if_pos rfl]; rfl
theorem inK_rd {n : Int} {st : List Int} (h : InK n st) (i : Nat) (hi : i < st.length) : 0 ≤ rd st i ∧ rd st i < n := by
  rw [rd_nat, List.getD_eq_getElem?_getD, List.getElem?_eq_getElem hi]
  exact h _ (List.getElem_mem hi)
theorem ask_of {net st : List Int} (hok : netI net = true) (hl : net.length = st.length) (hi : InK 3 st) (h1 : 1 ≤ st.length) (h6 : st.length ≤ 6) : askB net 3 st = true := by
  simp only [askB, stB, Bool.and_eq_true, decide_eq_true_eq, allFrom_iff]
  exact ⟨hok, ⟨⟨fun j _ hj => inK_rd hi j (by omega), ⟨by omega, by omega⟩, h1, h6⟩, hl⟩⟩
/-- The law behind the draw, where there is a grid and the state is one of its nodes. -/
theorem good {r c : Int} {net : List Int} {ts : List (List Int)} {border st : List Int} (hv : valid r c) (hnet : net_of r c = net) (hts : tours r c = ts) (hB : impl_BorderTour.f 60 r c = some border)
    (hf : BorderFits r c net border) (hall : allB net.length (chk net ts border) = true) (hl : st.length = net.length) (hi : InK 3 st) (hn1 : 1 ≤ net.length) (hn6 : net.length ≤ 6) :
    Ev (fun k => laws_FnSquareWindings.j0 k r c st (sqw r c st) (net_of r c) ((st.length : Int) != ((net_of r c).length : Int))) true := by
  have g := gridFacts hv
  have hok := g.ok
  have hfew := g.few
  rw [hnet] at hok
  rw [hts] at hfew
  have hask := ask_of hok hl.symm hi (by omega) (by omega)
  have hs : sqw r c st = ts.map (wnd st) := by
    unfold sqw
    rw [if_pos hv, hnet, if_pos hask, hts]
  rw [hs, hnet]
  have L := law_l0 (r := r) (c := c) hok (Ev.of (fun k => impl_BorderTour.mono _ _ k) hB) hf (allB_of _ _ hall st hl hi) hask hfew (ts.map (wnd st)) [] 0 true rfl rfl rfl (by simp) (by simp) (by simp)
  refine ev_eq _ (fun k => ?_) L
  simp only [laws_FnSquareWindings.j0]
  rw [if_neg (by rw [bne_iff_ne]; simp; omega)]
  rfl
/-- Where there is no grid, or the state is none of its nodes. -/
theorem bad {r c : Int} {st : List Int} (h : sqw r c st = []) : Ev (fun k => laws_FnSquareWindings.j0 k r c st (sqw r c st) (net_of r c) true) true := by
  rw [h]
  refine ev_eq _ (fun k => ?_) (Ev.bind alive_ev (Ev.now _))
  simp only [laws_FnSquareWindings.j0]
  rw [if_pos trivial, if_pos (by simp)]
theorem behind {r c : Int} {st : List Int} (hl : st.length ≤ 1048576) (h : valid r c → Ev (fun k => laws_FnSquareWindings.j0 k r c st (sqw r c st) (net_of r c) ((st.length : Int) != ((net_of r c).length : Int))) true) :
    Ev (fun k => (impl_SquareWindings.f k r c st).bind fun t364 => ((spec_SquareWindings.f k r c st).bind fun t367 => ((laws_sameInts.f k t364 t367).bind fun t370 => (if t370 = true then ((impl_GridNet.f r c).bind fun t371 => (if (t371.length : Int) = 0 then (laws_FnSquareWindings.j0 k r c st t364 t371 true) else (laws_FnSquareWindings.j0 k r c st t364 t371 ((st.length : Int) != (t371.length : Int))))) else (some false))))) true := by
  refine Ev.bind (impl_sw_ev r c st hl) (Ev.bind (spec_sw_ev r c st hl) (Ev.bind (sameInts_ev _ (by have := sqw_length r c st; omega)) (Ev.congr (fun k => if_pos rfl) ?_)))
  unfold impl_GridNet.f
  refine Ev.congr (fun k => Option.bind_some _ _) ?_
  by_cases hv : valid r c
  · have g := gridFacts hv
    have hne : ¬ (((net_of r c).length : Int) = 0) := by
      intro e
      exact g.some_ (List.length_eq_zero_iff.1 (by omega))
    exact Ev.congr (fun k => if_neg hne) (h hv)
  · have he : net_of r c = [] := by unfold net_of YtnhgiincboocaaaGrid.grid; rw [if_neg (show ¬ (1 ≤ r ∧ 1 ≤ c ∧ r ≤ 6 ∧ c ≤ 6 ∧ r * c ≤ 6) from hv)]
    have hs : sqw r c st = [] := by unfold sqw; rw [if_neg hv]
    exact Ev.congr (fun k => if_pos (by rw [show YtnhgiincboocaaaGrid.grid r c = [] from he]; rfl)) (bad hs)
end Go.Proofs.Ytnhgiincboocaaa.PFnSquareWindingsPure
