import Derived.Test.YtkfnehgmgebcbaaDoorLJ
import Derived.Test.YtkfnehgmgebcbaaDoorLK
namespace Go.Proofs.YtkfnehgmgebcbaaDoor.PFnPlaceTextPure
open Go.RowKit Go.Proofs.YtkfnehgmgebcbaaDoor.PFnPlaceText Go.Proofs.YtkfnehgmgebcbaaDoorW.PrintWords Go.Proofs.YtkfnehgmgebcbaaDoorW.PrintLast Go.Proofs.YtkfnehgmgebcbaaDoorW.PrintMore Go.Proofs.YtkfnehgmgebcbaaDoor.PFnPlaceTextPure
set_option linter.unusedVariables false
theorem sameInts_l0 (l : List Int) (hl : l.length ≤ 1048576) : ∀ (d n : Nat), n + d = l.length → Ev (fun k => laws_sameInts.l0 k l l (n : Int)) true := by
  intro d
  induction d with
  | zero =>
    intro n h1
    refine ev_ret (fun k => ?_)
    simp only [laws_sameInts.l0]
    rw [if_neg (by omega)]
  | succ d ih =>
    intro n h1
    refine ev_eq (fun k => laws_sameInts.l0 k l l ((n + 1 : Nat) : Int)) (fun k => ?_) (ih (n + 1) (by omega))
    simp only [laws_sameInts.l0]
    rw [if_pos (by omega), if_pos (by omega), if_pos (by omega), if_pos trivial, w64 (by omega) (by omega)]
    rfl
theorem sameInts_ev (l : List Int) (hl : l.length ≤ 1048576) : Ev (fun k => laws_sameInts.f k l l) true := by
  refine Ev.congr (fun k => ?_) (sameInts_l0 l hl l.length 0 (by omega))
  unfold laws_sameInts.f
  rw [if_pos rfl]
  rfl
theorem alive_ev : Ev (fun k => laws_alive.f k) true := by
  unfold laws_alive.f
  have h1 : netI [2, 1] = true := by decide +kernel
  have h2 : netI [1] = false := by decide +kernel
  refine Ev.bind (impl_net_ev _) ?_
  rw [h1]
  refine Ev.congr (fun k => if_pos rfl) (Ev.bind (impl_net_ev _) ?_)
  rw [h2]
  exact Ev.now _
theorem samePlace_ev (a : List Int) (kinds : Int) (b : List Int) (ha : a.length ≤ 1048576) (hb : b.length ≤ 1048576) : Ev (fun k => laws_samePlace.f k a kinds b a kinds b) true := by
  unfold laws_samePlace.f
  exact Ev.bind (sameInts_ev a ha) (Ev.congr (fun k => if_pos rfl) (Ev.congr (fun k => if_pos rfl) (Ev.bind (sameInts_ev b hb) (Ev.now _))))
theorem law_ev (l : List Int) (hw : ∀ x ∈ l, (Lit.int .u8 x).wf = true) : Ev (fun k => laws_FnPlaceText.f k l) true := by
  unfold laws_FnPlaceText.f
  by_cases hl : (l.length : Int) > 1048576
  · exact ev_const (fun k => if_pos hl)
  · refine Ev.congr (fun k => if_neg hl) ?_
    obtain ⟨b, hb, hB⟩ := open_bytes hw
    obtain ⟨net, kinds, st, q, hP, n6, s7, _, _⟩ := place_draw hB 0 9 (by omega) (by omega)
    have hD : Ev (fun k => spec_DrawPlaceText.f k l) (net, kinds, st) := by
      unfold spec_DrawPlaceText.f
      rw [hb]
      exact Ev.congr (fun k => Option.bind_some _ _) (Ev.bind hP (Ev.now _))
    have I := impl_text_ev net kinds st (by omega)
    have S := spec_text_ev net kinds st (by omega)
    refine Ev.bind hD (Ev.bind I (Ev.bind S (Ev.congr (fun k => if_pos rfl) ?_)))
    have A : Ev (fun k => impl_PlaceOk.f k net kinds st) (askB net kinds st) := by
      unfold impl_PlaceOk.f
      exact Ev.bind (impl_asked_ev net kinds st (by omega)) (Ev.now _)
    by_cases ha : askB net kinds st = true
    · have ht : textL net kinds st ≠ [] := by
        unfold textL
        rw [if_pos ha]
        unfold body
        simp
      refine Ev.congr (fun k => if_neg (by rw [mk_toList]; exact ht)) (Ev.bind (impl_read_text ha) (Ev.congr (fun k => if_pos rfl) (Ev.bind (samePlace_ev net kinds st (by omega) (by omega)) (Ev.now _))))
    · have ht : textL net kinds st = [] := by
        unfold textL
        rw [if_neg ha]
      have ha' : askB net kinds st = false := by simpa using ha
      rw [ha'] at A
      exact Ev.congr (fun k => if_pos (by rw [mk_toList]; exact ht)) (Ev.bind A (Ev.congr (fun k => if_neg Bool.false_ne_true) (Ev.bind alive_ev (Ev.now _))))
end Go.Proofs.YtkfnehgmgebcbaaDoor.PFnPlaceTextPure
