import Derived.Test.YtnhgiincboocaaaKD
import Derived.Test.YtnhgiincboocaaaKK
namespace Go.Proofs.Ytnhgiincboocaaa.PFnDeskOkPure
open Go.RowKit Go.Proofs.Ytnhgiincboocaaa.PFnDeskOk Go.Proofs.YtnhgiincboocaaaW.PrintWords Go.Proofs.YtnhgiincboocaaaW.PrintLast Go.Proofs.YtnhgiincboocaaaW.PrintMore Go.Proofs.Ytnhgiincboocaaa.PFnDeskOkPure
set_option linter.unusedVariables false
theorem alive_ev : Ev (fun k => laws_alive.f k) true := by
  unfold laws_alive.f
  have h1 : netI [2, 1] = true := by decide +kernel
  have h2 : netI [1] = false := by decide +kernel
  refine Ev.bind (impl_net_ev _) ?_
  rw [h1]
  refine Ev.congr (fun k => if_pos rfl) (Ev.bind (impl_net_ev _) ?_)
  rw [h2]
  exact Ev.now _
theorem spec_place_ev (net : List Int) (kinds : Int) (st : List Int) (h : st.length ≤ 1000) : Ev (fun k => spec_PlaceOk.f k net kinds st) (askB net kinds st) := by
  unfold spec_PlaceOk.f
  exact Ev.bind (spec_l3Ok_ev net kinds st (by omega)) (Ev.now _)
def pOk (p : S26) : Bool := askB p.f0 p.f1 p.f2
def deskB (net : List Int) (kinds : Int) (st : List Int) (past : List S26) : Bool := if allFrom (fun i => pOk (rd_T26 past (i : Int))) 0 past.length = true then (askB net kinds st && decide ((past.length : Int) ≤ 8)) else false
def SmallS (past : List S26) : Prop := past.length ≤ 100 ∧ ∀ i : Nat, i < past.length → (rd_T26 past (i : Int)).f0.length ≤ 100 ∧ (rd_T26 past (i : Int)).f2.length ≤ 100
theorem rd_at (past : List S26) (i : Nat) (h : i < past.length) : rd_T26 past (i : Int) = past[i] := by
  unfold rd_T26
  rw [Int.toNat_natCast, List.getD_eq_getElem?_getD, List.getElem?_eq_getElem h]
  rfl
theorem spec_deskOk_ev (net : List Int) (kinds : Int) (st : List Int) (past : List S26) (h : st.length ≤ 1000) (hp : SmallS past) : Ev (fun k => spec_DeskOk.f k net kinds st past) (deskB net kinds st past) := by
  unfold spec_DeskOk.f
  refine all_loop (fun i => pOk (rd_T26 past (i : Int))) (fun k n => spec_DeskOk.l0 k (n : Int) net kinds st past) (askB net kinds st && decide ((past.length : Int) ≤ 8)) false past.length ?_ ?_ ?_ past.length 0 (by omega)
  · refine ev_eq ?f_1 (fun k => ?h_1) ?g_1
    case h_1 =>
      simp only [spec_DeskOk.l0]
      rw [if_neg (by omega)]
    case g_1 =>
      refine Ev.bind (spec_place_ev net kinds st h) (ev_if (fun e => ?_) (fun e => ?_))
      · rw [e, Bool.true_and]; exact Ev.now _
      · rw [e, Bool.false_and]; exact Ev.now _
  · intro n hn hP r hr
    have hP' : askB (rd_T26 past (n : Int)).f0 (rd_T26 past (n : Int)).f1 (rd_T26 past (n : Int)).f2 = true := hP
    have e1 : wrap64 ((n : Int) + 1) = ((n + 1 : Nat) : Int) := by have := hp.1; rw [w64 (by omega) (by omega)]; rfl
    refine ev_eq ?f_2 (fun k => ?h_2) ?g_2
    case h_2 =>
      simp only [spec_DeskOk.l0]
      rw [if_pos (by omega), if_pos (by omega), e1]
    case g_2 =>
      have A := spec_place_ev (rd_T26 past (n : Int)).f0 (rd_T26 past (n : Int)).f1 (rd_T26 past (n : Int)).f2 (by have := (hp.2 n hn).2; omega)
      rw [hP'] at A
      exact Ev.bind A (Ev.congr (fun k => if_pos rfl) hr)
  · intro n hn hP
    have hP' : askB (rd_T26 past (n : Int)).f0 (rd_T26 past (n : Int)).f1 (rd_T26 past (n : Int)).f2 = false := hP
    refine ev_eq ?f_3 (fun k => ?h_3) ?g_3
    case h_3 =>
      simp only [spec_DeskOk.l0]
      rw [if_pos (by omega), if_pos (by omega)]
    case g_3 =>
      have A := spec_place_ev (rd_T26 past (n : Int)).f0 (rd_T26 past (n : Int)).f1 (rd_T26 past (n : Int)).f2 (by have := (hp.2 n hn).2; omega)
      rw [hP'] at A
      exact Ev.bind A (ev_const (fun k => if_neg Bool.false_ne_true))
theorem deskB_true {net : List Int} {kinds : Int} {st : List Int} {past : List S26} (h : deskB net kinds st past = true) : askB net kinds st = true ∧ past.length ≤ 8 ∧ ∀ i : Nat, i < past.length → pOk (rd_T26 past (i : Int)) = true := by
  unfold deskB at h
  split at h
  · rename_i ha
    rw [Bool.and_eq_true, decide_eq_true_eq] at h
    rw [allFrom_iff] at ha
    exact ⟨h.1, by omega, fun i hi => ha i (by omega) (by omega)⟩
  · cases h
theorem copy_place (net : List Int) (kinds : Int) (st : List Int) (h0 : net.length ≤ 1000) (h1 : st.length ≤ 1000) : spec_l15Place.f net kinds st = some (net, kinds, st) := by
  unfold spec_l15Place.f
  rw [Option.bind_some, if_pos (by simp only [List.length_nil]; omega), Option.bind_some, if_pos (by simp only [List.length_nil]; omega), List.nil_append, List.nil_append]
theorem copy_l0 (net : List Int) (kinds : Int) (st : List Int) (past : List S26) (hp : SmallS past) : ∀ (d n : Nat) (acc : List S26), n + d = past.length → acc = past.take n → Ev (fun k => spec_l15Copy.l0 k (n : Int) net kinds st past net kinds st acc) (net, kinds, st, past) := by
  have hp1 := hp.1
  intro d
  induction d with
  | zero =>
    intro n acc h1 h2
    refine ev_ret (fun k => ?_)
    simp only [spec_l15Copy.l0]
    rw [if_neg (by omega), h2, List.take_of_length_le (by omega)]
  | succ d ih =>
    intro n acc h1 h2
    have hn : n < past.length := by omega
    have e1 : wrap64 ((n : Int) + 1) = ((n + 1 : Nat) : Int) := by rw [w64 (by omega) (by omega)]; rfl
    have hb := hp.2 n hn
    refine ev_eq ?f_1 (fun k => ?h_1) ?g_1
    case h_1 =>
      simp only [spec_l15Copy.l0]
      rw [if_pos (by omega), if_pos (by omega), copy_place _ _ _ (by omega) (by omega), Option.bind_some, if_pos (by rw [h2, List.length_take]; omega), e1]
    case g_1 =>
      refine ih (n + 1) _ (by omega) ?_
      rw [h2, List.take_succ_eq_append_getElem hn, rd_at past n hn]
theorem copy_ev (net : List Int) (kinds : Int) (st : List Int) (past : List S26) (h0 : net.length ≤ 1000) (h1 : st.length ≤ 1000) (hp : SmallS past) : Ev (fun k => spec_l15Copy.f k net kinds st past) (net, kinds, st, past) := by
  unfold spec_l15Copy.f
  exact ev_bind_c (copy_place net kinds st h0 h1) (copy_l0 net kinds st past hp past.length 0 [] (by omega) rfl)
theorem step_l1 (net : List Int) (kinds : Int) (st : List Int) (set : Int) (hl : net.length = st.length) (hk : kinds ≠ 0) (h6 : st.length ≤ 1000) : ∀ (d n : Nat) (acc : List Int), n + d = st.length → acc.length = n → ∃ r : List Int, Ev (fun k => spec_l3Step.l1 k net kinds st set acc (n : Int)) r ∧ r.length = st.length := by
  intro d
  induction d with
  | zero =>
    intro n acc h1 h2
    refine ⟨acc, ev_ret (fun k => ?_), by omega⟩
    simp only [spec_l3Step.l1]
    rw [if_neg (by omega)]
  | succ d ih =>
    intro n acc h1 h2
    have e1 : wrap64 ((n : Int) + 1) = ((n + 1 : Nat) : Int) := by rw [w64 (by omega) (by omega)]; rfl
    have go : ∀ v : Int, ∃ r : List Int, Ev (fun k => spec_l3Step.l1 k net kinds st set (acc ++ [v]) ((n + 1 : Nat) : Int)) r ∧ r.length = st.length := fun v => ih (n + 1) (acc ++ [v]) (by omega) (by rw [List.length_append, List.length_singleton]; omega)
    by_cases c1 : rd st (n : Int) > 0
    · obtain ⟨r, hE, hr⟩ := go (Int.tmod (wrap64 (rd st (n : Int) + 1)) kinds)
      refine ⟨r, ev_eq _ (fun k => ?_) hE, hr⟩
      simp only [spec_l3Step.l1]
      rw [if_pos (by omega), if_pos (by omega), if_pos c1, if_neg hk, if_pos (by omega), e1]
    · by_cases c2 : Go.bits .and .i64 (rd net (n : Int)) set = 0
      · obtain ⟨r, hE, hr⟩ := go (rd st (n : Int))
        refine ⟨r, ev_eq _ (fun k => ?_) hE, hr⟩
        simp only [spec_l3Step.l1]
        rw [if_pos (by omega), if_pos (by omega), if_neg c1, if_pos (by omega), if_pos c2, if_pos (by omega), e1]
      · obtain ⟨r, hE, hr⟩ := go 1
        refine ⟨r, ev_eq _ (fun k => ?_) hE, hr⟩
        simp only [spec_l3Step.l1]
        rw [if_pos (by omega), if_pos (by omega), if_neg c1, if_pos (by omega), if_neg c2, if_pos (by omega), e1]
theorem step_l0 (net : List Int) (kinds : Int) (st : List Int) (hl : net.length = st.length) (hk : kinds ≠ 0) (h6 : st.length ≤ 1000) : ∀ (d n : Nat) (set : Int), n + d = st.length → ∃ r : List Int, Ev (fun k => spec_l3Step.l0 k net kinds st set (n : Int)) r ∧ r.length = st.length := by
  intro d
  induction d with
  | zero =>
    intro n set h1
    obtain ⟨r, hE, hr⟩ := step_l1 net kinds st set hl hk h6 st.length 0 [] (by omega) rfl
    refine ⟨r, ev_eq _ (fun k => ?_) hE, hr⟩
    simp only [spec_l3Step.l0]
    rw [if_neg (by omega)]
    rfl
  | succ d ih =>
    intro n set h1
    have e1 : wrap64 ((n : Int) + 1) = ((n + 1 : Nat) : Int) := by rw [w64 (by omega) (by omega)]; rfl
    by_cases c1 : rd st (n : Int) = 1
    · obtain ⟨r, hE, hr⟩ := ih (n + 1) (Go.bits .or .i64 set (shl .i64 1 (n : Int))) (by omega)
      refine ⟨r, ev_eq _ (fun k => ?_) hE, hr⟩
      simp only [spec_l3Step.l0]
      rw [if_pos (by omega), if_pos (by omega), if_pos c1, e1]
    · obtain ⟨r, hE, hr⟩ := ih (n + 1) set (by omega)
      refine ⟨r, ev_eq _ (fun k => ?_) hE, hr⟩
      simp only [spec_l3Step.l0]
      rw [if_pos (by omega), if_pos (by omega), if_neg c1, e1]
theorem step_ev (net : List Int) (kinds : Int) (st : List Int) (hl : net.length = st.length) (hk : kinds ≠ 0) (h6 : st.length ≤ 1000) : ∃ r : List Int, Ev (fun k => spec_l3Step.f k net kinds st) r ∧ r.length = st.length := by
  unfold spec_l3Step.f
  exact step_l0 net kinds st hl hk h6 st.length 0 0 (by omega)
/-- What a deed makes of a place is small. -/
def SmallR (n : Nat) (r : List Int × Int × List Int) : Prop := r.1.length ≤ n ∧ r.2.2.length ≤ n
theorem made_j1 (c : Bool) (net : List Int) (kinds : Int) (st : List Int) (a0 a1 a2 : Int) (hl : net.length = st.length) (hk : kinds ≠ 0) (h6 : st.length ≤ 1000) (hc : c = true → 0 ≤ a1 ∧ a1 < st.length) : ∃ r, Ev (fun k => spec_l15Made.j1 k c net kinds st a0 a1 a2 net kinds st) r ∧ SmallR st.length r := by
  cases c with
  | true =>
    obtain ⟨h0, h1⟩ := hc rfl
    refine ⟨(net, kinds, st.set (a1 : Int).toNat 1), ev_ret (fun k => ?_), ?_⟩
    · simp only [spec_l15Made.j1]
      rw [if_pos trivial, if_pos h0, if_pos h1]
    · exact ⟨Nat.le_of_eq hl, by rw [List.length_set]; exact Nat.le_refl _⟩
  | false =>
    by_cases c1 : (a0 == 2 && (a1 == 0 && (a2 == 0))) = true
    · obtain ⟨r, hE, hr⟩ := step_ev net kinds st hl hk h6
      refine ⟨(net, kinds, r), ?_, Nat.le_of_eq hl, by rw [hr]; exact Nat.le_refl _⟩
      refine ev_eq ?f_1 (fun k => ?h_1) ?g_1
      case h_1 =>
        simp only [spec_l15Made.j1]
        rw [if_neg Bool.false_ne_true, if_pos c1]
      case g_1 => exact Ev.bind hE (Ev.now _)
    · by_cases c2 : (a0 == 3 && (a2 == 0)) = true
      · refine ⟨(net, a1, st), ev_ret (fun k => ?_), Nat.le_of_eq hl, Nat.le_refl _⟩
        simp only [spec_l15Made.j1]
        rw [if_neg Bool.false_ne_true, if_neg c1, if_pos c2]
      · refine ⟨([], 0, []), ev_ret (fun k => ?_), Nat.zero_le _, Nat.zero_le _⟩
        simp only [spec_l15Made.j1]
        rw [if_neg Bool.false_ne_true, if_neg c1, if_neg c2]
theorem in_b {a b c : Int} : (decide (b ≤ a) && decide (a ≤ c)) = true ↔ b ≤ a ∧ a ≤ c := by rw [Bool.and_eq_true, decide_eq_true_eq, decide_eq_true_eq]
theorem made_j0 (c : Bool) (net : List Int) (kinds : Int) (st : List Int) (a0 a1 a2 : Int) (hl : net.length = st.length) (hk : kinds ≠ 0) (h6 : st.length ≤ 1000) (hc : c = true → (0 ≤ a1 ∧ a1 < net.length) ∧ 0 ≤ a2 ∧ a2 < net.length) : ∃ r, Ev (fun k => spec_l15Made.j0 k ((net.length : Int) - 1) c net kinds st a0 a1 a2 net kinds st) r ∧ SmallR st.length r := by
  cases c with
  | true =>
    obtain ⟨⟨h0, h1⟩, h2, h3⟩ := hc rfl
    refine ⟨((net.set (a1 : Int).toNat (Go.bits .xor .i64 (rd net a1) (shl .i64 1 a2))).set (a2 : Int).toNat (Go.bits .xor .i64 (rd (net.set (a1 : Int).toNat (Go.bits .xor .i64 (rd net a1) (shl .i64 1 a2))) a2) (shl .i64 1 a1)), kinds, st), ev_ret (fun k => ?_), ?_⟩
    · simp only [spec_l15Made.j0]
      rw [if_pos trivial, if_pos h0, if_pos h1, if_pos h2, Option.bind_some, if_pos h3]
    · exact ⟨by rw [List.length_set, List.length_set]; exact Nat.le_of_eq hl, Nat.le_refl _⟩
  | false =>
    by_cases c1 : (a0 == 1 && (a2 == 0)) = true
    · by_cases c2 : 0 ≤ a1 ∧ a1 ≤ (net.length : Int) - 1
      · obtain ⟨r, hE, hr⟩ := made_j1 (rd st a1 == 0) net kinds st a0 a1 a2 hl hk h6 (fun _ => ⟨c2.1, by omega⟩)
        refine ⟨r, ?_, hr⟩
        refine ev_eq _ (fun k => ?_) hE
        simp only [spec_l15Made.j0]
        rw [if_neg Bool.false_ne_true, if_pos c1, l1In_eq, Option.bind_some, if_pos (in_b.2 c2), if_pos c2.1, if_pos (by omega)]
      · obtain ⟨r, hE, hr⟩ := made_j1 false net kinds st a0 a1 a2 hl hk h6 (fun h => by cases h)
        refine ⟨r, ?_, hr⟩
        refine ev_eq _ (fun k => ?_) hE
        simp only [spec_l15Made.j0]
        rw [if_neg Bool.false_ne_true, if_pos c1, l1In_eq, Option.bind_some, if_neg (fun h => c2 (in_b.1 h))]
    · obtain ⟨r, hE, hr⟩ := made_j1 false net kinds st a0 a1 a2 hl hk h6 (fun h => by cases h)
      refine ⟨r, ?_, hr⟩
      refine ev_eq _ (fun k => ?_) hE
      simp only [spec_l15Made.j0]
      rw [if_neg Bool.false_ne_true, if_neg c1]
theorem made_ev (net : List Int) (kinds : Int) (st : List Int) (a0 a1 a2 : Int) (hl : net.length = st.length) (hk : kinds ≠ 0) (h6 : st.length ≤ 1000) : ∃ r, Ev (fun k => spec_l15Made.f k net kinds st a0 a1 a2) r ∧ SmallR st.length r := by
  unfold spec_l15Made.f
  rw [copy_place net kinds st (by omega) h6, w64 (x := (net.length : Int) - 1) (by omega) (by omega)]
  have F := made_j0 false net kinds st a0 a1 a2 hl hk h6 (fun h => by cases h)
  by_cases c0 : (a0 == 0) = true
  · by_cases c1 : 0 ≤ a1 ∧ a1 ≤ (net.length : Int) - 1
    · by_cases c2 : 0 ≤ a2 ∧ a2 ≤ (net.length : Int) - 1
      · obtain ⟨r, hE, hr⟩ := made_j0 (a1 != a2) net kinds st a0 a1 a2 hl hk h6 (fun _ => ⟨⟨c1.1, by omega⟩, c2.1, by omega⟩)
        exact ⟨r, Ev.congr (fun k => Option.bind_some _ _) (Ev.congr (fun k => if_pos c0) (ev_bind_c (l1In_eq _ _ _) (Ev.congr (fun k => if_pos (in_b.2 c1)) (ev_bind_c (l1In_eq _ _ _) (Ev.congr (fun k => if_pos (in_b.2 c2)) hE))))), hr⟩
      · obtain ⟨r, hE, hr⟩ := F
        exact ⟨r, Ev.congr (fun k => Option.bind_some _ _) (Ev.congr (fun k => if_pos c0) (ev_bind_c (l1In_eq _ _ _) (Ev.congr (fun k => if_pos (in_b.2 c1)) (ev_bind_c (l1In_eq _ _ _) (Ev.congr (fun k => if_neg (fun h => c2 (in_b.1 h))) hE))))), hr⟩
    · obtain ⟨r, hE, hr⟩ := F
      exact ⟨r, Ev.congr (fun k => Option.bind_some _ _) (Ev.congr (fun k => if_pos c0) (ev_bind_c (l1In_eq _ _ _) (Ev.congr (fun k => if_neg (fun h => c1 (in_b.1 h))) hE))), hr⟩
  · obtain ⟨r, hE, hr⟩ := F
    exact ⟨r, Ev.congr (fun k => Option.bind_some _ _) (Ev.congr (fun k => if_neg c0) hE), hr⟩
/-- A desk that is small. -/
structure Small (net : List Int) (st : List Int) (past : List S26) : Prop where
  net : net.length ≤ 7
  st : st.length ≤ 7
  len : past.length ≤ 8
  el : ∀ p ∈ past, p.f0.length ≤ 7 ∧ p.f2.length ≤ 7
theorem Small.s {net st : List Int} {past : List S26} (h : Small net st past) : SmallS past := by
  refine ⟨by have := h.len; omega, fun i hi => ?_⟩
  rw [rd_at past i hi]
  have := h.el past[i] (List.getElem_mem hi)
  omega
theorem small_zero : Small [] [] [] := ⟨Nat.zero_le _, Nat.zero_le _, Nat.zero_le _, fun _ h => by cases h⟩
abbrev DR := List Int × Int × List Int × List S26 × Bool
theorem do_j1 (c : Bool) (net : List Int) (kinds : Int) (st : List Int) (past : List S26) (h : Small net st past) (n2 : List Int) (k2 : Int) (s2 : List Int) (h2 : n2.length ≤ 7) (h3 : s2.length ≤ 7) : ∃ r : DR, Ev (fun k => spec_DeskDo.j1 k c net kinds st past n2 k2 s2) r ∧ Small r.1 r.2.2.1 r.2.2.2.1 := by
  have hl := h.len
  cases c with
  | true =>
    refine ⟨(net, kinds, st, past, false), ev_ret (fun k => ?_), h⟩
    simp only [spec_DeskDo.j1]
    rw [if_pos trivial]
  | false =>
    have hel : ∀ p ∈ past ++ [(⟨net, kinds, st⟩ : S26)], p.f0.length ≤ 7 ∧ p.f2.length ≤ 7 := by
      intro p hp
      rcases List.mem_append.1 hp with hp | hp
      · exact h.el p hp
      · rw [List.mem_singleton.1 hp]; exact ⟨h.net, h.st⟩
    have hlen : (past ++ [(⟨net, kinds, st⟩ : S26)]).length = past.length + 1 := by rw [List.length_append, List.length_singleton]
    by_cases c8 : ((past ++ [(⟨net, kinds, st⟩ : S26)]).length : Int) > 8
    · refine ⟨(n2, k2, s2, (past ++ [(⟨net, kinds, st⟩ : S26)]).drop (1 : Int).toNat, true), ev_ret (fun k => ?_), h2, h3, ?_, fun p hp => hel p (List.mem_of_mem_drop hp)⟩
      · simp only [spec_DeskDo.j1]
        rw [if_neg Bool.false_ne_true, if_pos (by omega), Option.bind_some, if_pos c8, if_pos (by omega)]
      · show ((past ++ [(⟨net, kinds, st⟩ : S26)]).drop 1).length ≤ 8
        rw [List.length_drop]; omega
    · refine ⟨(n2, k2, s2, past ++ [(⟨net, kinds, st⟩ : S26)], true), ev_ret (fun k => ?_), h2, h3, by show (past ++ [(⟨net, kinds, st⟩ : S26)]).length ≤ 8; omega, hel⟩
      simp only [spec_DeskDo.j1]
      rw [if_neg Bool.false_ne_true, if_pos (by omega), Option.bind_some, if_neg c8]
theorem do_j0 (c : Bool) (net : List Int) (kinds : Int) (st : List Int) (past : List S26) (h : Small net st past) (ha : askB net kinds st = true) (a0 a1 a2 : Int) (hc : c = true → 0 < past.length) : ∃ r : DR, Ev (fun k => spec_DeskDo.j0 k false c net kinds st past a0 a1 a2 0 net kinds st past) r ∧ Small r.1 r.2.2.1 r.2.2.2.1 := by
  obtain ⟨f1, f2, f3, f4, f5, f6, f7⟩ := ask_facts ha
  have hl := h.len
  cases c with
  | true =>
    have h0 := hc rfl
    have e1 : wrap64 ((past.length : Int) - 1) = ((past.length - 1 : Nat) : Int) := by rw [w64 (by omega) (by omega)]; omega
    have hm : past.length - 1 < past.length := by omega
    have he := h.el past[past.length - 1] (List.getElem_mem hm)
    refine ⟨((rd_T26 past ((past.length - 1 : Nat) : Int)).f0, (rd_T26 past ((past.length - 1 : Nat) : Int)).f1, (rd_T26 past ((past.length - 1 : Nat) : Int)).f2, past.take ((past.length - 1 : Nat) : Int).toNat, true), ev_ret (fun k => ?_), ?_, ?_, ?_, ?_⟩
    · simp only [spec_DeskDo.j0]
      rw [if_pos trivial, if_pos (by omega), e1]
    · show (rd_T26 past ((past.length - 1 : Nat) : Int)).f0.length ≤ 7
      rw [rd_at past _ hm]; exact he.1
    · show (rd_T26 past ((past.length - 1 : Nat) : Int)).f2.length ≤ 7
      rw [rd_at past _ hm]; exact he.2
    · show (past.take _).length ≤ 8
      rw [List.length_take]; omega
    · intro p hp
      exact h.el p (List.mem_of_mem_take hp)
  | false =>
    obtain ⟨⟨n2, k2, s2⟩, hM, m1, m2⟩ := made_ev net kinds st a0 a1 a2 f1 (by omega) (by omega)
    simp only at m1 m2
    have hP := spec_place_ev n2 k2 s2 (by omega)
    have start : ∀ r : DR, Ev (fun k => if askB n2 k2 s2 = true then (spec_PlaceText.f k n2 k2 s2).bind fun t377 => (spec_PlaceText.f k net kinds st).bind fun t378 => spec_DeskDo.j1 k (t377.toList == t378.toList) net kinds st past n2 k2 s2 else spec_DeskDo.j1 k true net kinds st past n2 k2 s2) r → Ev (fun k => spec_DeskDo.j0 k false false net kinds st past a0 a1 a2 0 net kinds st past) r := by
      intro r hr
      refine ev_eq ?f_1 (fun k => ?h_1) ?g_1
      case h_1 =>
        simp only [spec_DeskDo.j0]
        rw [if_neg Bool.false_ne_true]
      case g_1 => exact Ev.bind hM (Ev.bind hP hr)
    by_cases c1 : askB n2 k2 s2 = true
    · obtain ⟨r, hE, hr⟩ := do_j1 ((mk (textL n2 k2 s2)).toList == (mk (textL net kinds st)).toList) net kinds st past h n2 k2 s2 (by omega) (by omega)
      exact ⟨r, start r (Ev.congr (fun k => if_pos c1) (Ev.bind (spec_text_ev n2 k2 s2 (by omega)) (Ev.bind (spec_text_ev net kinds st (by omega)) hE))), hr⟩
    · obtain ⟨r, hE, hr⟩ := do_j1 true net kinds st past h n2 k2 s2 (by omega) (by omega)
      exact ⟨r, start r (Ev.congr (fun k => if_neg c1) hE), hr⟩
theorem do_ev (net : List Int) (kinds : Int) (st : List Int) (past : List S26) (h : Small net st past) (a0 a1 a2 : Int) : ∃ r : DR, Ev (fun k => spec_DeskDo.f k net kinds st past a0 a1 a2) r ∧ Small r.1 r.2.2.1 r.2.2.2.1 := by
  unfold spec_DeskDo.f
  have D := spec_deskOk_ev net kinds st past (by have := h.st; omega) h.s
  by_cases hd : deskB net kinds st past = true
  · rw [hd] at D
    obtain ⟨ha, _, _⟩ := deskB_true hd
    have C := copy_ev net kinds st past (by have := h.net; omega) (by have := h.st; omega) h.s
    by_cases c0 : (a0 == 4 && (a1 == 0 && (a2 == 0))) = true
    · obtain ⟨r, hE, hr⟩ := do_j0 (decide ((past.length : Int) > 0)) net kinds st past h ha a0 a1 a2 (fun e => by have := of_decide_eq_true e; omega)
      exact ⟨r, Ev.bind D (Ev.congr (fun k => if_pos rfl) (Ev.bind C (Ev.congr (fun k => if_pos c0) hE))), hr⟩
    · obtain ⟨r, hE, hr⟩ := do_j0 false net kinds st past h ha a0 a1 a2 (fun e => by cases e)
      exact ⟨r, Ev.bind D (Ev.congr (fun k => if_pos rfl) (Ev.bind C (Ev.congr (fun k => if_neg c0) hE))), hr⟩
  · have hd' : deskB net kinds st past = false := by simpa using hd
    rw [hd'] at D
    exact ⟨([], 0, [], [], false), Ev.bind D (ev_const (fun k => if_neg Bool.false_ne_true)), small_zero⟩
theorem deed_j0 {b : List Int} (hb : Bytes b) (p a0 a1 a2 : Int) (h0 : 0 ≤ p) (h1 : p ≤ 800000) : ∃ r : Int × Int × Int × Int, Ev (fun k => spec_l20Deed.j0 k b p a0 a1 a2) r ∧ 0 ≤ r.2.2.2 ∧ r.2.2.2 ≤ p + 4 := by
  obtain ⟨o, q, hO, q0, q1⟩ := odd_ev hb p 40 h0 (by omega)
  have start : ∀ r : Int × Int × Int × Int, Ev (fun k => if o = true then ((spec_l20Rd_pick.f k b q 2).bind fun bt406 => (if bt406.1 = 0 then ((some (([(-1), 100] : List Int) : List Int)).bind fun y408 => ((spec_l20Rd_pick.f k b bt406.2 2).bind fun bt411 => (if 0 ≤ bt411.1 then (if bt411.1 < (y408.length : Int) then (some (a0, rd y408 bt411.1, a2, bt411.2)) else (none)) else (none)))) else (some (a0, a1, 99, bt406.2)))) else (some (a0, a1, a2, q))) r → Ev (fun k => spec_l20Deed.j0 k b p a0 a1 a2) r := by
    intro r hr
    refine ev_eq ?f_1 (fun k => ?h_1) ?g_1
    case h_1 =>
      simp only [spec_l20Deed.j0]
      rfl
    case g_1 => exact Ev.bind hO hr
  cases o with
  | false => exact ⟨(a0, a1, a2, q), start _ (ev_const (fun k => if_neg Bool.false_ne_true)), by show 0 ≤ q; omega, by show q ≤ p + 4; omega⟩
  | true =>
    obtain ⟨v, hv, v0, v1⟩ := pick_ev hb q 2 (by omega) (by omega)
    by_cases hv0 : v = 0
    · obtain ⟨u, hu, u0, u1⟩ := pick_ev hb (q + 1) 2 (by omega) (by omega)
      have := u1 (by omega)
      exact ⟨(a0, rd [(-1), 100] u, a2, q + 1 + 1), start _ (Ev.congr (fun k => if_pos rfl) (Ev.bind hv (Ev.congr (fun k => if_pos hv0) (Ev.congr (fun k => Option.bind_some _ _) (Ev.bind hu (Ev.congr (fun k => if_pos u0) (ev_const (fun k => if_pos this)))))))), by show 0 ≤ q + 1 + 1; omega, by show q + 1 + 1 ≤ p + 4; omega⟩
    · exact ⟨(a0, a1, 99, q + 1), start _ (Ev.congr (fun k => if_pos rfl) (Ev.bind hv (ev_const (fun k => if_neg hv0)))), by show 0 ≤ q + 1; omega, by show q + 1 ≤ p + 4; omega⟩
theorem deed_ev {b : List Int} (hb : Bytes b) (p : Int) (net : List Int) (kinds : Int) (st : List Int) (h0 : 0 ≤ p) (h1 : p ≤ 700000) : ∃ r : Int × Int × Int × Int, Ev (fun k => spec_l20Deed.f k b p net kinds st) r ∧ 0 ≤ r.2.2.2 ∧ r.2.2.2 ≤ p + 10 := by
  obtain ⟨v, hv, v0, v1⟩ := pick_ev hb p 8 h0 (by omega)
  have hv1 := v1 (by omega)
  obtain ⟨u, hu, u0, u1⟩ := pick_ev hb (p + 1) 60 (by omega) (by omega)
  unfold spec_l20Deed.f
  obtain ⟨K, hK⟩ : ∃ K : Int, wrap64 ((rd [0, 0, 1, 1, 2, 2, 3, 4] v) + (wrap64 ((wrap64 (Int.tdiv u 59)) * 5))) = K := ⟨_, rfl⟩
  by_cases k0 : wrap64 ((rd [0, 0, 1, 1, 2, 2, 3, 4] v) + (wrap64 ((wrap64 (Int.tdiv u 59)) * 5))) = 0
  · obtain ⟨x, hx, _, _⟩ := pick_ev hb (p + 1 + 1) (mx (net.length : Int) 1) (by omega) (by omega)
    obtain ⟨y, hy, _, _⟩ := pick_ev hb (p + 1 + 1 + 1) (mx (net.length : Int) 1) (by omega) (by omega)
    obtain ⟨r, hE, r0, r1⟩ := deed_j0 hb (p + 1 + 1 + 1 + 1) (wrap64 ((rd [0, 0, 1, 1, 2, 2, 3, 4] v) + (wrap64 ((wrap64 (Int.tdiv u 59)) * 5)))) x y (by omega) (by omega)
    exact ⟨r, Ev.congr (fun k => Option.bind_some _ _) (Ev.bind hv (Ev.congr (fun k => if_pos v0) (Ev.congr (fun k => if_pos hv1) (Ev.bind hu (Ev.congr (fun k => if_pos k0) (Ev.bind hx (Ev.bind hy hE))))))), r0, by omega⟩
  · by_cases k1 : wrap64 ((rd [0, 0, 1, 1, 2, 2, 3, 4] v) + (wrap64 ((wrap64 (Int.tdiv u 59)) * 5))) = 1
    · obtain ⟨x, hx, _, _⟩ := pick_ev hb (p + 1 + 1) (mx (net.length : Int) 1) (by omega) (by omega)
      obtain ⟨r, hE, r0, r1⟩ := deed_j0 hb (p + 1 + 1 + 1) (wrap64 ((rd [0, 0, 1, 1, 2, 2, 3, 4] v) + (wrap64 ((wrap64 (Int.tdiv u 59)) * 5)))) x 0 (by omega) (by omega)
      exact ⟨r, Ev.congr (fun k => Option.bind_some _ _) (Ev.bind hv (Ev.congr (fun k => if_pos v0) (Ev.congr (fun k => if_pos hv1) (Ev.bind hu (Ev.congr (fun k => if_neg k0) (Ev.congr (fun k => if_pos k1) (Ev.bind hx hE))))))), r0, by omega⟩
    · by_cases k3 : wrap64 ((rd [0, 0, 1, 1, 2, 2, 3, 4] v) + (wrap64 ((wrap64 (Int.tdiv u 59)) * 5))) = 3
      · obtain ⟨x, hx, _, _⟩ := pick_ev hb (p + 1 + 1) 3 (by omega) (by omega)
        obtain ⟨r, hE, r0, r1⟩ := deed_j0 hb (p + 1 + 1 + 1) (wrap64 ((rd [0, 0, 1, 1, 2, 2, 3, 4] v) + (wrap64 ((wrap64 (Int.tdiv u 59)) * 5)))) (wrap64 (3 + x)) 0 (by omega) (by omega)
        exact ⟨r, Ev.congr (fun k => Option.bind_some _ _) (Ev.bind hv (Ev.congr (fun k => if_pos v0) (Ev.congr (fun k => if_pos hv1) (Ev.bind hu (Ev.congr (fun k => if_neg k0) (Ev.congr (fun k => if_neg k1) (Ev.congr (fun k => if_pos k3) (Ev.bind hx hE)))))))), r0, by omega⟩
      · obtain ⟨r, hE, r0, r1⟩ := deed_j0 hb (p + 1 + 1) (wrap64 ((rd [0, 0, 1, 1, 2, 2, 3, 4] v) + (wrap64 ((wrap64 (Int.tdiv u 59)) * 5)))) 0 0 (by omega) (by omega)
        exact ⟨r, Ev.congr (fun k => Option.bind_some _ _) (Ev.bind hv (Ev.congr (fun k => if_pos v0) (Ev.congr (fun k => if_pos hv1) (Ev.bind hu (Ev.congr (fun k => if_neg k0) (Ev.congr (fun k => if_neg k1) (Ev.congr (fun k => if_neg k3) hE))))))), r0, by omega⟩
theorem smallS_of {past : List S26} (h : past.length ≤ 100) (he : ∀ p ∈ past, p.f0.length ≤ 7 ∧ p.f2.length ≤ 7) : SmallS past := by
  refine ⟨h, fun i hi => ?_⟩
  rw [rd_at past i hi]
  have := he past[i] (List.getElem_mem hi)
  omega
abbrev DQ := List Int × Int × List Int × List S26 × Int
def SmallQ (r : DQ) : Prop := r.1.length ≤ 7 ∧ r.2.2.1.length ≤ 7 ∧ r.2.2.2.1.length ≤ 9 ∧ ∀ p ∈ r.2.2.2.1, p.f0.length ≤ 7 ∧ p.f2.length ≤ 7
theorem desk_l0 {b : List Int} (hb : Bytes b) (n : Int) : ∀ (d : Nat) (p : Int) (net : List Int) (kinds : Int) (st : List Int) (past : List S26), Small net st past → 0 ≤ p → p + 20 * d ≤ 600000 → ∃ r : DQ, Ev (fun k => spec_l20Desk.l0 k n (d : Int) b p net kinds st past) r ∧ SmallQ r ∧ 0 ≤ r.2.2.2.2 ∧ r.2.2.2.2 ≤ p + 20 * d + 2 := by
  intro d
  induction d with
  | zero =>
    intro p net kinds st past hs h0 h1
    have hl := hs.len
    obtain ⟨o, q, hO, q0, q1⟩ := odd_ev hb p n h0 (by omega)
    have start : ∀ r : DQ, Ev (fun k => if o = true then ((spec_l20Rd_pick.f k b q 3).bind fun bt455 => (if bt455.1 = 0 then (some (net, 2, st, past, bt455.2)) else (if bt455.1 = 1 then (if past.length < 2513169434916 then (some (net, kinds, st, (past ++ [(⟨([] : List Int), 0, ([] : List Int)⟩ : S26)]), bt455.2)) else (none)) else (some (([] : List Int), 0, ([] : List Int), ([] : List (S26)), bt455.2))))) else (some (net, kinds, st, past, q))) r → Ev (fun k => spec_l20Desk.l0 k n ((0 : Nat) : Int) b p net kinds st past) r := by
      intro r hr
      refine ev_eq ?f_1 (fun k => ?h_1) ?g_1
      case h_1 =>
        simp only [spec_l20Desk.l0]
        rw [if_neg (by omega)]
      case g_1 => exact Ev.bind hO hr
    cases o with
    | false => exact ⟨(net, kinds, st, past, q), start _ (ev_const (fun k => if_neg Bool.false_ne_true)), ⟨hs.net, hs.st, by show past.length ≤ 9; omega, hs.el⟩, by show 0 ≤ q; omega, by show q ≤ _; omega⟩
    | true =>
      obtain ⟨v, hv, v0, v1⟩ := pick_ev hb q 3 (by omega) (by omega)
      by_cases hv0 : v = 0
      · exact ⟨(net, 2, st, past, q + 1), start _ (Ev.congr (fun k => if_pos rfl) (Ev.bind hv (ev_const (fun k => if_pos hv0)))), ⟨hs.net, hs.st, by show past.length ≤ 9; omega, hs.el⟩, by show 0 ≤ q + 1; omega, by show q + 1 ≤ _; omega⟩
      · by_cases hv1 : v = 1
        · refine ⟨(net, kinds, st, past ++ [(⟨([] : List Int), 0, ([] : List Int)⟩ : S26)], q + 1), start _ (Ev.congr (fun k => if_pos rfl) (Ev.bind hv (Ev.congr (fun k => if_neg hv0) (Ev.congr (fun k => if_pos hv1) (ev_const (fun k => if_pos (by omega))))))), ⟨hs.net, hs.st, ?_, ?_⟩, by show 0 ≤ q + 1; omega, by show q + 1 ≤ _; omega⟩
          · show (past ++ [_]).length ≤ 9
            rw [List.length_append, List.length_singleton]; omega
          · intro x hx
            rcases List.mem_append.1 hx with hx | hx
            · exact hs.el x hx
            · rw [List.mem_singleton.1 hx]; exact ⟨Nat.zero_le _, Nat.zero_le _⟩
        · exact ⟨([], 0, [], [], q + 1), start _ (Ev.congr (fun k => if_pos rfl) (Ev.bind hv (Ev.congr (fun k => if_neg hv0) (ev_const (fun k => if_neg hv1))))), ⟨Nat.zero_le _, Nat.zero_le _, Nat.zero_le _, fun x hx => by cases hx⟩, by show 0 ≤ q + 1; omega, by show q + 1 ≤ _; omega⟩
  | succ d ih =>
    intro p net kinds st past hs h0 h1
    obtain ⟨⟨a0, a1, a2, q⟩, hD, q0, q1⟩ := deed_ev hb p net kinds st h0 (by omega)
    obtain ⟨⟨n2, k2, s2, p2, ok⟩, hE, hs2⟩ := do_ev net kinds st past hs a0 a1 a2
    simp only at q0 q1 hs2
    have e1 : wrap64 (((d + 1 : Nat) : Int) - 1) = (d : Int) := by rw [w64 (by omega) (by omega)]; omega
    have start : ∀ r : DQ, Ev (fun k => if ok = true then (spec_l20Desk.l0 k n (d : Int) b q n2 k2 s2 p2) else (spec_l20Desk.l0 k n (d : Int) b q net kinds st past)) r → Ev (fun k => spec_l20Desk.l0 k n ((d + 1 : Nat) : Int) b p net kinds st past) r := by
      intro r hr
      refine ev_eq ?f_2 (fun k => ?h_2) ?g_2
      case h_2 =>
        simp only [spec_l20Desk.l0]
        rw [if_pos (by omega), e1]
      case g_2 => exact Ev.bind hD (Ev.bind hE hr)
    cases ok with
    | true =>
      obtain ⟨r, hr, hS, r0, r1⟩ := ih q n2 k2 s2 p2 hs2 q0 (by omega)
      exact ⟨r, start r (Ev.congr (fun k => if_pos rfl) hr), hS, r0, by omega⟩
    | false =>
      obtain ⟨r, hr, hS, r0, r1⟩ := ih q net kinds st past hs q0 (by omega)
      exact ⟨r, start r (Ev.congr (fun k => if_neg Bool.false_ne_true) hr), hS, r0, by omega⟩
theorem new_ev (net : List Int) (kinds : Int) (st : List Int) (h0 : net.length ≤ 7) (h1 : st.length ≤ 7) : ∃ (n2 : List Int) (k2 : Int) (s2 : List Int) (ok : Bool), Ev (fun k => spec_DeskNew.f k net kinds st) (n2, k2, s2, ([] : List S26), ok) ∧ Small n2 s2 ([] : List S26) := by
  unfold spec_DeskNew.f
  have P := spec_place_ev net kinds st (by omega)
  by_cases ha : askB net kinds st = true
  · rw [ha] at P
    exact ⟨net, kinds, st, true, Ev.bind P (Ev.congr (fun k => if_pos rfl) (ev_bind_c (copy_place net kinds st (by omega) (by omega)) (Ev.now _))), h0, h1, Nat.zero_le _, fun _ h => by cases h⟩
  · have ha' : askB net kinds st = false := by simpa using ha
    rw [ha'] at P
    exact ⟨[], 0, [], false, Ev.bind P (ev_const (fun k => if_neg Bool.false_ne_true)), small_zero⟩
theorem desk_ev {b : List Int} (hb : Bytes b) (p n : Int) (h0 : 0 ≤ p) (h1 : p ≤ 500000) : ∃ r : DQ, Ev (fun k => spec_l20Desk.f k b p n) r ∧ SmallQ r ∧ 0 ≤ r.2.2.2.2 ∧ r.2.2.2.2 ≤ p + 150 := by
  obtain ⟨net, kinds, st, q, hP, n6, s7, q0, q1⟩ := place_draw hb p 0 h0 (by omega)
  obtain ⟨n2, k2, s2, ok, hN, hs⟩ := new_ev net kinds st (by omega) s7
  obtain ⟨v, hv, v0, v1⟩ := pick_ev hb q 5 q0 (by omega)
  have := v1 (by omega)
  obtain ⟨d, rfl⟩ := Int.eq_ofNat_of_zero_le v0
  obtain ⟨r, hE, hS, r0, r1⟩ := desk_l0 hb n d (q + 1) n2 k2 s2 [] hs (by omega) (by omega)
  unfold spec_l20Desk.f
  exact ⟨r, Ev.bind hP (Ev.bind hN (Ev.bind hv hE)), hS, r0, by omega⟩
theorem impl_place_ev (net : List Int) (kinds : Int) (st : List Int) (h : st.length ≤ 1000) : Ev (fun k => impl_PlaceOk.f k net kinds st) (askB net kinds st) := by
  unfold impl_PlaceOk.f
  exact Ev.bind (impl_asked_ev net kinds st (by omega)) (Ev.now _)
theorem impl_deskOk_ev (net : List Int) (kinds : Int) (st : List Int) (past : List S26) (h : st.length ≤ 1000) (hp : SmallS past) : Ev (fun k => impl_DeskOk.f k net kinds st past) (deskB net kinds st past) := by
  unfold impl_DeskOk.f
  refine all_loop (fun i => pOk (rd_T26 past (i : Int))) (fun k n => impl_DeskOk.l0 k past (past.length : Int) (n : Int) net kinds st past) (askB net kinds st && decide ((past.length : Int) ≤ 8)) false past.length ?_ ?_ ?_ past.length 0 (by omega)
  · refine ev_eq ?f_1 (fun k => ?h_1) ?g_1
    case h_1 =>
      simp only [impl_DeskOk.l0]
      rw [if_neg (by omega)]
    case g_1 =>
      refine Ev.bind (impl_place_ev net kinds st h) (ev_if (fun e => ?_) (fun e => ?_))
      · rw [e, Bool.true_and]; exact Ev.now _
      · rw [e, Bool.false_and]; exact Ev.now _
  · intro n hn hP r hr
    have hP' : askB (rd_T26 past (n : Int)).f0 (rd_T26 past (n : Int)).f1 (rd_T26 past (n : Int)).f2 = true := hP
    have e1 : wrap64 ((n : Int) + 1) = ((n + 1 : Nat) : Int) := by have := hp.1; rw [w64 (by omega) (by omega)]; rfl
    refine ev_eq ?f_2 (fun k => ?h_2) ?g_2
    case h_2 =>
      simp only [impl_DeskOk.l0]
      rw [if_pos (by omega), if_pos (by omega), if_pos (by omega), e1]
    case g_2 =>
      have A := impl_place_ev (rd_T26 past (n : Int)).f0 (rd_T26 past (n : Int)).f1 (rd_T26 past (n : Int)).f2 (by have := (hp.2 n hn).2; omega)
      rw [hP'] at A
      exact Ev.bind A (Ev.congr (fun k => if_pos rfl) hr)
  · intro n hn hP
    have hP' : askB (rd_T26 past (n : Int)).f0 (rd_T26 past (n : Int)).f1 (rd_T26 past (n : Int)).f2 = false := hP
    refine ev_eq ?f_3 (fun k => ?h_3) ?g_3
    case h_3 =>
      simp only [impl_DeskOk.l0]
      rw [if_pos (by omega), if_pos (by omega), if_pos (by omega)]
    case g_3 =>
      have A := impl_place_ev (rd_T26 past (n : Int)).f0 (rd_T26 past (n : Int)).f1 (rd_T26 past (n : Int)).f2 (by have := (hp.2 n hn).2; omega)
      rw [hP'] at A
      exact Ev.bind A (ev_const (fun k => if_neg Bool.false_ne_true))
theorem smallS_nil : SmallS ([] : List S26) := ⟨Nat.zero_le _, fun i hi => by simp at hi⟩
theorem ask_zero : askB [] 0 [] = false := by decide +kernel
theorem deskB_nil (net : List Int) (kinds : Int) (st : List Int) : deskB net kinds st ([] : List S26) = askB net kinds st := by
  unfold deskB
  rw [if_pos (show allFrom (fun i => pOk (rd_T26 ([] : List S26) (i : Int))) 0 ([] : List S26).length = true from rfl)]
  simp
theorem law_ev (l : List Int) (hw : ∀ x ∈ l, (Lit.int .u8 x).wf = true) : Ev (fun k => laws_FnDeskOk.f k l) true := by
  unfold laws_FnDeskOk.f
  by_cases hl : (l.length : Int) > 1048576
  · exact ev_const (fun k => if_pos hl)
  · refine Ev.congr (fun k => if_neg hl) ?_
    obtain ⟨b, hb, hB⟩ := open_bytes hw
    obtain ⟨⟨net, kinds, st, past, q⟩, hE, ⟨h0, h1, h2, h3⟩, _, _⟩ := desk_ev hB 0 2 (by omega) (by omega)
    simp only at h0 h1 h2 h3
    have hD : Ev (fun k => spec_DrawDeskOk.f k l) (net, kinds, st, past) := by
      unfold spec_DrawDeskOk.f
      rw [hb]
      exact Ev.congr (fun k => Option.bind_some _ _) (Ev.bind hE (Ev.now _))
    have hS := smallS_of (show past.length ≤ 100 by omega) h3
    have I := impl_deskOk_ev net kinds st past (by omega) hS
    have S := spec_deskOk_ev net kinds st past (by omega) hS
    have Z := impl_deskOk_ev [] 0 [] [] (Nat.zero_le _) smallS_nil
    rw [deskB_nil, ask_zero] at Z
    refine Ev.bind hD (Ev.bind I (Ev.bind S (Ev.congr (fun k => if_neg (by simp)) ?_)))
    by_cases hd : deskB net kinds st past = true
    · have N := impl_deskOk_ev net kinds st [] (by omega) smallS_nil
      rw [deskB_nil, (deskB_true hd).1] at N
      exact Ev.congr (fun k => if_pos hd) (Ev.bind N (Ev.congr (fun k => if_pos rfl) (Ev.bind Z (Ev.congr (fun k => if_neg Bool.false_ne_true) (Ev.bind alive_ev (Ev.now _))))))
    · exact Ev.congr (fun k => if_neg hd) (Ev.bind Z (Ev.congr (fun k => if_neg Bool.false_ne_true) (Ev.bind alive_ev (Ev.now _))))
end Go.Proofs.Ytnhgiincboocaaa.PFnDeskOkPure
