import Derived.Test.YtnhgiincboocaaaDoorTA
import Derived.Test.YtnhgiincboocaaaDoorPFnExactReadPlacex9
namespace Go.Proofs.YtnhgiincboocaaaDoor.PFnExactReadPlacePure
open Go.RowKit Go.Proofs.YtnhgiincboocaaaDoor.PFnExactReadPlace Go.Proofs.YtnhgiincboocaaaDoorW.PrintWords Go.Proofs.YtnhgiincboocaaaDoorW.PrintLast Go.Proofs.YtnhgiincboocaaaDoorW.PrintMore Go.Proofs.YtnhgiincboocaaaDoor.PFnExactReadPlacePure
set_option linter.unusedVariables false
theorem eqIntS_l0 (l : List Int) (hl : l.length ≤ 1048576) : ∀ (d n : Nat), n + d = l.length → Ev (fun k => laws_eqIntS.l0 k l l (n : Int)) true := by
  intro d
  induction d with
  | zero =>
    intro n h1
    refine ev_ret (fun k => ?_)
    simp only [laws_eqIntS.l0]
    rw [if_neg (by omega)]
  | succ d ih =>
    intro n h1
    refine ev_eq (fun k => laws_eqIntS.l0 k l l ((n + 1 : Nat) : Int)) (fun k => ?_) (ih (n + 1) (by omega))
    simp only [laws_eqIntS.l0]
    rw [if_pos (by omega), if_pos (by omega), if_pos (by omega), if_pos trivial, w64 (by omega) (by omega)]
    rfl
theorem eqIntS_ev (l : List Int) (hl : l.length ≤ 1048576) : Ev (fun k => laws_eqIntS.f k l l) true := by
  refine Ev.congr (fun k => ?_) (eqIntS_l0 l hl l.length 0 (by omega))
  unfold laws_eqIntS.f
  rw [if_pos rfl]
  rfl
def marks (n : Nat) (m : Int) : List Int := List.map (fun j : Nat => m + (j : Int)) (List.range n)
theorem marks_length (n : Nat) (m : Int) : (marks n m).length = n := by simp [marks]
theorem marks_get (n : Nat) (m : Int) (j : Nat) (h : j < n) : (marks n m)[j]? = some (m + (j : Int)) := by
  simp [marks, List.getElem?_map, List.getElem?_range h]
theorem markIntS_l0 (l : List Int) (m : Int) (h0 : 0 ≤ m) (hm : m ≤ 1073741824) (hl : l.length ≤ 1048576) : ∀ (d n : Nat) (acc : List Int), n + d = l.length → acc.length = l.length → (∀ j, j < n → acc[j]? = some (m + (j : Int))) → Ev (fun k => laws_markIntS.l0 k acc (m + n) (n : Int)) (m + l.length, marks l.length m) := by
  intro d
  induction d with
  | zero =>
    intro n acc h1 h2 h3
    have e : acc = marks l.length m := by
      apply List.ext_getElem?
      intro j
      by_cases hj : j < n
      · rw [h3 j hj, marks_get _ _ _ (by omega)]
      · rw [List.getElem?_eq_none (by omega), List.getElem?_eq_none (by rw [marks_length]; omega)]
    have e2 : n = l.length := by omega
    refine ev_ret (fun k => ?_)
    simp only [laws_markIntS.l0]
    rw [if_neg (by omega), e, e2]
  | succ d ih =>
    intro n acc h1 h2 h3
    refine ev_eq (fun k => laws_markIntS.l0 k (acc.set n (m + n)) (m + ((n + 1 : Nat) : Int)) ((n + 1 : Nat) : Int)) (fun k => ?_) (ih (n + 1) _ (by omega) (by simp [h2]) ?_)
    · simp only [laws_markIntS.l0]
      rw [if_pos (by omega), if_pos (by omega), w64 (by omega) (by omega), w64 (by omega) (by omega)]
      have e : m + (n : Int) + 1 = m + ((n + 1 : Nat) : Int) := by omega
      rw [e]
      rfl
    · intro j hj
      rw [List.getElem?_set]
      by_cases e : n = j
      · subst e
        rw [if_pos rfl, if_pos (by omega)]
      · rw [if_neg e]; exact h3 j (by omega)
theorem markIntS_ev (l : List Int) (m : Int) (h0 : 0 ≤ m) (hm : m ≤ 1073741824) (hl : l.length ≤ 1048576) : Ev (fun k => laws_markIntS.f k l m) (m + l.length, marks l.length m) := by
  refine Ev.congr (fun k => ?_) (markIntS_l0 l m h0 hm hl l.length 0 l (by omega) rfl (fun j hj => by omega))
  unfold laws_markIntS.f
  simp
theorem heldIntS_l0 (c : Nat) (m : Int) (h0 : 0 ≤ m) (hm : m ≤ 1073741824) (hl : c ≤ 1048576) : ∀ (d n : Nat), n + d = c → Ev (fun k => laws_heldIntS.l0 k (marks c m) (m + n) (n : Int)) (m + c) := by
  intro d
  induction d with
  | zero =>
    intro n h1
    have e : n = c := by omega
    refine ev_ret (fun k => ?_)
    simp only [laws_heldIntS.l0]
    rw [if_neg (by rw [marks_length]; omega), e]
  | succ d ih =>
    intro n h1
    refine ev_eq (fun k => laws_heldIntS.l0 k (marks c m) (m + ((n + 1 : Nat) : Int)) ((n + 1 : Nat) : Int)) (fun k => ?_) (ih (n + 1) (by omega))
    simp only [laws_heldIntS.l0]
    rw [if_pos (by rw [marks_length]; omega), if_pos (by omega), if_pos (by rw [rd_nat, List.getD_eq_getElem?_getD, marks_get _ _ _ (by omega)]; rfl), w64 (by omega) (by omega), w64 (by omega) (by omega)]
    have e : m + (n : Int) + 1 = m + ((n + 1 : Nat) : Int) := by omega
    rw [e]
    rfl
theorem heldIntS_ev (c : Nat) (m : Int) (h0 : 0 ≤ m) (hm : m ≤ 1073741824) (hl : c ≤ 1048576) : Ev (fun k => laws_heldIntS.f k (marks c m) m) (m + c) := by
  refine Ev.congr (fun k => ?_) (heldIntS_l0 c m h0 hm hl c 0 (by omega))
  unfold laws_heldIntS.f
  simp
theorem eqPlace_ev (a : List Int) (kinds : Int) (b : List Int) (ha : a.length ≤ 1048576) (hb : b.length ≤ 1048576) : Ev (fun k => laws_eqPlace.f k a kinds b a kinds b) true := by
  unfold laws_eqPlace.f
  exact Ev.bind (eqIntS_ev a ha) (Ev.congr (fun k => if_pos rfl) (Ev.congr (fun k => if_pos rfl) (Ev.bind (eqIntS_ev b hb) (ev_const (fun k => if_pos rfl)))))
theorem markPlace_ev (a : List Int) (kinds : Int) (b : List Int) (ha : a.length ≤ 1048576) (hb : b.length ≤ 1048576) : Ev (fun k => laws_markPlace.f k a kinds b 1) (1 + a.length + b.length, marks a.length 1, marks b.length (1 + a.length)) := by
  unfold laws_markPlace.f
  exact Ev.bind (markIntS_ev a 1 (by omega) (by omega) ha) (Ev.bind (markIntS_ev b (1 + a.length) (by omega) (by omega) hb) (Ev.now _))
theorem heldPlace_ev (n : Nat) (kinds : Int) (m : Nat) (ha : n ≤ 1048576) (hb : m ≤ 1048576) : Ev (fun k => laws_heldPlace.f k (marks n 1) kinds (marks m (1 + n)) 1) (1 + n + m) := by
  unfold laws_heldPlace.f
  exact Ev.bind (heldIntS_ev n 1 (by omega) (by omega) ha) (Ev.congr (fun k => if_neg (by omega)) (Ev.bind (heldIntS_ev m (1 + n) (by omega) (by omega) hb) (ev_const (fun k => if_neg (by omega)))))
end Go.Proofs.YtnhgiincboocaaaDoor.PFnExactReadPlacePure
