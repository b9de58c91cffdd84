import Derived.Test.YtnhgiincboocaaaDoorTK
import Derived.Test.YtnhgiincboocaaaDoorTF
namespace Go.Proofs.YtnhgiincboocaaaDoor.PFnExactReadPlacePure
open Go.RowKit Go.Proofs.YtnhgiincboocaaaDoor.PFnExactReadPlace Go.Proofs.YtnhgiincboocaaaDoorW.PrintWords Go.Proofs.YtnhgiincboocaaaDoorW.PrintLast Go.Proofs.YtnhgiincboocaaaDoorW.PrintMore Go.Proofs.YtnhgiincboocaaaDoor.PFnExactReadPlacePure
set_option linter.unusedVariables false
theorem law_ev (a0 : ByteArray) : Ev (fun k => laws_FnExactReadPlace.f k a0) true := by
  unfold laws_FnExactReadPlace.f
  by_cases hs : (a0.size : Int) > 1048576
  · exact ev_const (fun k => if_pos hs)
  · refine Ev.congr (fun k => if_neg hs) ?_
    obtain ⟨⟨x, q, y, ok⟩, S, I, hx, hy⟩ := read_ev a0 (by omega)
    have E := eqPlace_ev x q y hx hy
    have M := markPlace_ev x q y hx hy
    have H := heldPlace_ev x.length q y.length hx hy
    refine Ev.bind S (Ev.bind I (Ev.bind E (Ev.congr (fun k => if_pos rfl) (Ev.congr (fun k => if_neg (by simp)) (Ev.bind M (Ev.bind H (Ev.congr (fun k => if_neg (by omega)) (Ev.congr (fun k => if_pos rfl) (Ev.bind I (Ev.bind E (Ev.congr (fun k => if_pos rfl) (Ev.congr (fun k => if_neg (by simp)) (Ev.bind H (Ev.congr (fun k => if_neg (by omega)) (ev_const (fun k => if_pos rfl))))))))))))))))
end Go.Proofs.YtnhgiincboocaaaDoor.PFnExactReadPlacePure
