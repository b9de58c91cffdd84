import Derived.Test.YtnhgiincboocaaaQC
namespace Go.Proofs.Ytnhgiincboocaaa.PFnExactSquareWindingsPure
open Go.RowKit Go.Proofs.Ytnhgiincboocaaa.PFnExactSquareWindings Go.Proofs.YtnhgiincboocaaaW.PrintWords Go.Proofs.YtnhgiincboocaaaW.PrintLast Go.Proofs.YtnhgiincboocaaaW.PrintMore Go.Proofs.Ytnhgiincboocaaa.PFnExactSquareWindingsPure
set_option linter.unusedVariables false
theorem law_ev (r c : Int) (st : List Int) : Ev (fun k => laws_FnExactSquareWindings.f k r c st) true := by
  unfold laws_FnExactSquareWindings.f
  by_cases hl : (st.length : Int) > 1048576
  · exact ev_const (fun k => if_pos hl)
  · refine Ev.congr (fun k => if_neg hl) ?_
    have hl : st.length ≤ 1048576 := by omega
    have hs := sqw_length r c st
    have T := toIntS_ev st hl
    have I := impl_sw_ev r c st hl
    have S := spec_sw_ev r c st hl
    have E := eqIntS_ev (sqw r c st) (by omega)
    have M := markIntS_ev st 1 (by omega) (by omega) hl
    have H := heldIntS_ev (sqw r c st).length 1 (by omega) (by omega) (by omega)
    refine Ev.bind T (Ev.bind S (Ev.bind T (Ev.bind I (Ev.bind E (Ev.congr (fun k => if_pos rfl) (Ev.bind T (Ev.bind (eqIntS_ev st hl) (Ev.congr (fun k => if_pos rfl) (Ev.bind M (Ev.congr (fun k => if_neg (by show ¬ (1 + (st.length : Int) < 0); omega)) (Ev.bind E ?_)))))))))))
    refine ev_eq (fun k => (laws_markIntS.f k (sqw r c st) 1).bind fun bt250 => ((laws_heldIntS.f k bt250.2 1).bind fun t252 => (if t252 < 0 then (some false) else (if t252 = bt250.1 then ((laws_toIntS.f k st).bind fun t253 => ((impl_SquareWindings.f k r c t253).bind fun t256 => ((laws_eqIntS.f k t256 (sqw r c st)).bind fun t259 => (if t259 = true then ((laws_heldIntS.f k bt250.2 1).bind fun t260 => (if t260 < 0 then (some false) else (if t260 = bt250.1 then (some true) else (some false)))) else (some false))))) else (some false))))) (fun k => ?_) ?_
    · simp only [laws_FnExactSquareWindings.j0]
      rw [if_neg (by decide)]
    · refine Ev.bind (markIntS_ev (sqw r c st) 1 (by omega) (by omega) (by omega)) (Ev.bind H (Ev.congr (fun k => if_neg (by omega)) (Ev.congr (fun k => if_pos rfl) (Ev.bind T (Ev.bind I (Ev.bind E (Ev.congr (fun k => if_pos rfl) (Ev.bind H (Ev.congr (fun k => if_neg (by omega)) (ev_const (fun k => if_pos rfl)))))))))))
end Go.Proofs.Ytnhgiincboocaaa.PFnExactSquareWindingsPure
