import Derived.Test.YtkfnehgmgebcbaaDoorLD
import Derived.Lib.Bytes
import Derived.Lib.Strings
namespace Go.Proofs.YtkfnehgmgebcbaaDoor.PFnPlaceTextPure
open Go.RowKit Go.Proofs.YtkfnehgmgebcbaaDoor.PFnPlaceText Go.Proofs.YtkfnehgmgebcbaaDoorW.PrintWords Go.Proofs.YtkfnehgmgebcbaaDoorW.PrintLast Go.Proofs.YtkfnehgmgebcbaaDoorW.PrintMore Go.Proofs.YtkfnehgmgebcbaaDoor.PFnPlaceTextPure
set_option linter.unusedVariables false
set_option linter.unusedSimpArgs false
theorem stepS0 (m : Nat) (h : m < 4194304) : wrap64 ((m : Int) + 1) = ((m + 1 : Nat) : Int) := (w64 (by omega) (by omega)).trans (by omega)
theorem mk_toList (l : List UInt8) : (mk l).toList = l := by rw [toList_eq, mk_list]
theorem spec_row (net : List Int) (kinds : Int) (st : List Int) (ss : List UInt8) (i : Nat) (hi : i < net.length) (h6 : net.length ≤ 6) (hx : 0 ≤ rd net i ∧ rd net i < 64) (r : ByteArray) : ∀ (d j : Nat) (ws : List (List UInt8)), j + d = net.length → Good2 ws → ws.length + d ≤ 1000 → Ev (fun k => spec_PlaceText.l0 k (mk (joinW (ws ++ rowW net i d j))) (mk ss) ((i + 1 : Nat) : Int) net kinds st) r →
    Ev (fun k => spec_PlaceText.l1 k (mk (joinW ws)) (mk ss) (i : Int) (j : Int) net kinds st) r := by
  intro d
  induction d with
  | zero =>
    intro j ws h1 hg h2 h
    have e1 : ws ++ rowW net i 0 j = ws := by simp [rowW]
    rw [e1] at h
    refine ev_eq _ (fun k => ?_) h
    simp only [spec_PlaceText.l1]
    rw [if_neg (by omega), w64 (by omega) (by omega)]
    rfl
  | succ d ih =>
    intro j ws h1 hg h2 h
    rcases tB_two hx.1 hx.2 (show j < 6 by omega) with e | e
    · have e1 : rowW net i (d + 1) j = rowW net i d (j + 1) := by rw [rowW, if_pos e]
      rw [e1] at h
      have eb : Int.tmod (shr .i64 (rd net i) (j : Int)) 2 = 0 := e
      refine ev_eq _ (fun k => ?_) (ih (j + 1) ws (by omega) hg (by omega) h)
      simp only [spec_PlaceText.l1]
      rw [if_pos (by omega), if_pos (by omega), if_pos (by omega), if_pos (by omega), if_pos eb, w64 (by omega) (by omega)]
      rfl
    · have e1 : rowW net i (d + 1) j = [dg i, dg j] :: rowW net i d (j + 1) := by rw [rowW, if_neg (by rw [e]; decide)]
      rw [e1, List.append_cons] at h
      have eb : ¬ Int.tmod (shr .i64 (rd net i) (j : Int)) 2 = 0 := by
        intro h0
        have : (1 : Int) = 0 := e.symm.trans h0
        omega
      have hg' : Good2 (ws ++ [[dg i, dg j]]) := by
        intro p hp
        rcases List.mem_append.1 hp with hp | hp
        · exact hg p hp
        · rw [List.mem_singleton.1 hp]; rfl
      have h' := ih (j + 1) (ws ++ [[dg i, dg j]]) (by omega) hg' (by rw [List.length_append, List.length_singleton]; omega) h
      rw [joinW_snoc] at h'
      have hjl := joinW_len hg
      have e2 : wrap64 ((j : Int) + 1) = ((j + 1 : Nat) : Int) := stepS0 j (by omega)
      have p1 : (j : Int) < (net.length : Int) := by omega
      have p2 : (0 : Int) ≤ (i : Int) := by omega
      have p3 : (i : Int) < (net.length : Int) := by omega
      have p4 : (0 : Int) ≤ (j : Int) := by omega
      by_cases hw : ws = []
      · subst hw
        rw [if_pos rfl] at h'
        refine ev_eq ?f1 (fun k => ?h1) ?g1
        case h1 =>
          simp only [spec_PlaceText.l1]
          rw [if_pos p1, if_pos p2, if_pos p3, if_pos p4, if_neg eb, if_pos (by rw [mk_toList]; rfl)]
        case g1 =>
          refine Ev.bind (num_at (i : Int) (by omega) (by omega)) (Ev.congr (fun k => if_pos (by simp only [mk_size, List.length_cons, List.length_nil]; omega)) (Ev.bind (num_at (j : Int) (by omega) (by omega)) (Ev.congr (fun k => if_pos (by simp only [app_mk, mk_size, List.length_append, List.length_cons, List.length_nil]; omega)) ?_)))
          rw [app_mk, app_mk, e2]
          exact h'
      · rw [if_neg hw] at h'
        refine ev_eq ?f2 (fun k => ?h2) ?g2
        case h2 =>
          simp only [spec_PlaceText.l1]
          rw [if_pos p1, if_pos p2, if_pos p3, if_pos p4, if_neg eb, if_neg (by rw [mk_toList]; exact fun h0 => hw ((joinW_nil hg).1 h0)), if_pos (by rw [mk_size]; omega)]
        case g2 =>
          refine Ev.bind (num_at (i : Int) (by omega) (by omega)) (Ev.congr (fun k => if_pos (by simp only [lit_mk, app_mk, mk_size, List.length_append, List.length_cons, List.length_nil]; omega)) (Ev.bind (num_at (j : Int) (by omega) (by omega)) (Ev.congr (fun k => if_pos (by simp only [lit_mk, app_mk, mk_size, List.length_append, List.length_cons, List.length_nil]; omega)) ?_)))
          rw [lit_mk, app_mk, app_mk, app_mk, e2]
          have e3 : joinW ws ++ [44] ++ [dg (i : Int)] ++ [dg (j : Int)] = joinW ws ++ [44] ++ [dg i, dg j] := by simp
          rw [e3]
          exact h'
def mid (ws : List (List UInt8)) : List UInt8 := if ws = [] then [46] else joinW ws
theorem spec_all (net : List Int) (kinds : Int) (st : List Int) (hn : net.length = st.length) (h6 : net.length ≤ 6) (hk0 : 0 ≤ kinds) (hk : kinds < 10) (hs : ∀ i : Nat, i < st.length → 0 ≤ rd st i ∧ rd st i < 10) (hx : ∀ i : Nat, i < net.length → 0 ≤ rd net i ∧ rd net i < 64) : ∀ (d i : Nat) (ws : List (List UInt8)) (ss : List UInt8), i + d = net.length → Good2 ws → ws.length + 6 * d ≤ 900 → ss.length + d ≤ 2000 →
    Ev (fun k => spec_PlaceText.l0 k (mk (joinW ws)) (mk ss) (i : Int) net kinds st) (mk ([dg net.length, 32] ++ mid (ws ++ allW net d i) ++ [32, dg kinds, 32] ++ (ss ++ (st.drop i).map dg))) := by
  intro d
  induction d with
  | zero =>
    intro i ws ss h1 hg h2 h3
    have e1 : ws ++ allW net 0 i = ws := by simp [allW]
    have hjl := joinW_len hg
    have p1 : ¬ (i : Int) < (net.length : Int) := by omega
    rw [e1, List.drop_eq_nil_of_le (by omega)]
    by_cases hw : ws = []
    · subst hw
      refine ev_eq ?f3 (fun k => ?h3) ?g3
      case h3 =>
        simp only [spec_PlaceText.l0]
        rw [if_neg p1, if_pos (by rw [mk_toList]; rfl)]
      case g3 =>
        refine Ev.bind (num_at (net.length : Int) (by omega) (by omega)) ?_
        simp only [lit_mk, app_mk]
        refine Ev.congr (fun k => if_pos (by simp only [mk_size, List.length_append, List.length_cons, List.length_nil]; omega)) (Ev.congr (fun k => if_pos (by simp only [mk_size, List.length_append, List.length_cons, List.length_nil]; omega)) (Ev.congr (fun k => if_pos (by simp only [mk_size, List.length_append, List.length_cons, List.length_nil]; omega)) (Ev.bind (num_at kinds hk0 hk) ?_)))
        simp only [app_mk]
        refine Ev.congr (fun k => if_pos (by simp only [mk_size, List.length_append, List.length_cons, List.length_nil]; omega)) (Ev.congr (fun k => if_pos (by simp only [mk_size, List.length_append, List.length_cons, List.length_nil]; omega)) (Ev.congr (fun k => if_pos (by simp only [mk_size, List.length_append, List.length_cons, List.length_nil]; omega)) (ev_const (fun k => ?_))))
        simp [mid]
    · refine ev_eq ?f4 (fun k => ?h4) ?g4
      case h4 =>
        simp only [spec_PlaceText.l0]
        rw [if_neg p1, if_neg (by rw [mk_toList]; exact fun h0 => hw ((joinW_nil hg).1 h0))]
      case g4 =>
        refine Ev.bind (num_at (net.length : Int) (by omega) (by omega)) ?_
        simp only [lit_mk, app_mk]
        refine Ev.congr (fun k => if_pos (by simp only [mk_size, List.length_append, List.length_cons, List.length_nil]; omega)) (Ev.congr (fun k => if_pos (by simp only [mk_size, List.length_append, List.length_cons, List.length_nil]; omega)) (Ev.congr (fun k => if_pos (by simp only [mk_size, List.length_append, List.length_cons, List.length_nil]; omega)) (Ev.bind (num_at kinds hk0 hk) ?_)))
        simp only [app_mk]
        refine Ev.congr (fun k => if_pos (by simp only [mk_size, List.length_append, List.length_cons, List.length_nil]; omega)) (Ev.congr (fun k => if_pos (by simp only [mk_size, List.length_append, List.length_cons, List.length_nil]; omega)) (Ev.congr (fun k => if_pos (by simp only [mk_size, List.length_append, List.length_cons, List.length_nil]; omega)) (ev_const (fun k => ?_))))
        simp [mid, hw]
  | succ d ih =>
    intro i ws ss h1 hg h2 h3
    obtain ⟨g1, g2⟩ := rowW_good net i (net.length - (i + 1)) (i + 1)
    have hg' : Good2 (ws ++ rowW net i (net.length - (i + 1)) (i + 1)) := by
      intro p hp
      rcases List.mem_append.1 hp with hp | hp
      · exact hg p hp
      · exact g1 p hp
    have p1 : (i : Int) < (net.length : Int) := by omega
    have p2 : (0 : Int) ≤ (i : Int) := by omega
    have p3 : (i : Int) < (st.length : Int) := by omega
    have p4 : (mk ss).size + (mk [dg (rd st i)]).size ≤ 9223372036854775807 := by rw [mk_size, mk_size, List.length_singleton]; omega
    obtain ⟨ha, hb⟩ := hs i (by omega)
    have h := ih (i + 1) (ws ++ rowW net i (net.length - (i + 1)) (i + 1)) (ss ++ [dg (rd st i)]) (by omega) hg' (by rw [List.length_append]; omega) (by rw [List.length_append, List.length_singleton]; omega)
    have e1 : ws ++ allW net (d + 1) i = (ws ++ rowW net i (net.length - (i + 1)) (i + 1)) ++ allW net d (i + 1) := by rw [allW, List.append_assoc]
    have e2 : ss ++ (st.drop i).map dg = ss ++ [dg (rd st i)] ++ (st.drop (i + 1)).map dg := by rw [rd_drop st i (by omega)]; simp
    rw [e1, e2]
    have h' := spec_row net kinds st (ss ++ [dg (rd st i)]) i (by omega) h6 (hx i (by omega)) _ (net.length - (i + 1)) (i + 1) ws (by omega) hg (by omega) h
    have e3 : wrap64 ((i : Int) + 1) = ((i + 1 : Nat) : Int) := stepS0 i (by omega)
    refine ev_eq ?f5 (fun k => ?h5) ?g5
    case h5 =>
      simp only [spec_PlaceText.l0]
      rw [if_pos p1, if_pos p2, if_pos p3]
    case g5 =>
      refine Ev.bind (num_at (rd st i) ha hb) (Ev.congr (fun k => if_pos p4) ?_)
      rw [app_mk, e3]
      exact h'
theorem spec_text_ev (net : List Int) (kinds : Int) (st : List Int) (hl : st.length ≤ 4611686018427387904) : Ev (fun k => spec_PlaceText.f k net kinds st) (mk (textL net kinds st)) := by
  unfold spec_PlaceText.f spec_PlaceOk.f textL
  refine Ev.bind (Ev.bind (spec_l3Ok_ev net kinds st hl) (Ev.now _)) (ev_if (fun h => ?_) (fun h => ?_))
  · rw [if_pos h]
    obtain ⟨f1, f2, f3, f4, f5, f6, f7⟩ := ask_facts h
    have h := spec_all net kinds st f1 (by omega) (by omega) (by omega) (fun i hi => ⟨(f6 i hi).1, by have := (f6 i hi).2; omega⟩) f7 net.length 0 [] [] (by omega) (fun p hp => by simp at hp) (by simp; omega) (by simp; omega)
    exact h
  · rw [if_neg (by rw [h]; decide)]
    exact Ev.now _
end Go.Proofs.YtkfnehgmgebcbaaDoor.PFnPlaceTextPure
