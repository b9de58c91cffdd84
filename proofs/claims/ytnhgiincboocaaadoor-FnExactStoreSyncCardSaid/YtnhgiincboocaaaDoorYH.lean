import Derived.Test.YtnhgiincboocaaaDoorYG
namespace Go.Proofs.YtnhgiincboocaaaDoor.PFnExactStoreSyncPure
open Go.RowKit Go.Proofs.YtnhgiincboocaaaDoor.PFnExactStoreSync Go.Proofs.YtnhgiincboocaaaDoorW.PrintWords Go.Proofs.YtnhgiincboocaaaDoorW.PrintLast Go.Proofs.YtnhgiincboocaaaDoorW.PrintMore Go.Proofs.YtnhgiincboocaaaDoor.PFnExactStoreSyncPure
set_option linter.unusedVariables false
theorem two_s (x y : UInt8) : ((mk [x, y]).size : Int) = 2 := rfl
theorem two_0 (x y : UInt8) : (0 : Int) < ((mk [x, y]).size : Int) := by rw [two_s]; decide
theorem two_1 (x y : UInt8) : (1 : Int) < ((mk [x, y]).size : Int) := by rw [two_s]; decide
theorem spec_pairs (s w0 w1 w2 w3 : List UInt8) (hw : w1 ≠ [46]) (kinds : Int) (pcs : List (List UInt8)) (hp : pcs.length ≤ 1048577) (r : RP) : ∀ (d i : Nat) (net : List Int), i + d = pcs.length → net.length ≤ 6 → (pairsF (pcs.drop i) net = none → r = zeroR) → (∀ net', pairsF (pcs.drop i) net = some net' → Ev (fun k => spec_ReadPlace.l1 k (mk s) [mk w0, mk w1, mk w2, mk w3] 0 net' kinds []) r) →
    Ev (fun k => spec_ReadPlace.l0 k (mk s) [mk w0, mk w1, mk w2, mk w3] (pcs.map mk) (i : Int) net kinds) r := by
  intro d
  induction d with
  | zero =>
    intro i net h1 h6 hz hs
    rw [List.drop_eq_nil_of_le (by omega)] at hz hs
    refine ev_eq (fun k => spec_ReadPlace.j2 k (mk s) [mk w0, mk w1, mk w2, mk w3] (pcs.map mk) (i : Int) false net kinds) (fun k => ?_) (ev_eq _ (fun k => ?_) (hs net rfl))
    · simp only [spec_ReadPlace.l0]
      rw [if_neg (by rw [List.length_map]; omega)]
    · simp only [spec_ReadPlace.j2]
      rw [if_neg (by decide)]
  | succ d ih =>
    intro i net h1 h6 hz hs
    have hi : i < pcs.length := by omega
    rw [List.drop_eq_getElem_cons hi] at hz hs
    have hb : ((mk w1).toList != ([46] : List UInt8)) = true := by rw [mk_toList]; exact bne_iff_ne.2 hw
    have p1 : (i : Int) < ((pcs.map mk).length : Int) := by rw [List.length_map]; omega
    have p2 : (0 : Int) ≤ (i : Int) := by omega
    have e3 := stepS0 i (by omega)
    refine ev_eq (fun k => spec_ReadPlace.j2 k (mk s) [mk w0, mk w1, mk w2, mk w3] (pcs.map mk) (i : Int) true net kinds) (fun k => ?_) ?_
    · simp only [spec_ReadPlace.l0]
      rw [if_pos p1, qlen, if_pos (by decide), q1, hb]
    · by_cases hl : pcs[i].length = 2
      · obtain ⟨x, y, hxy⟩ := two_of hl
        rw [hxy] at hz hs
        have eA := w48 x
        have eB := w48 y
        have en : wrap64 ((net.length : Int) - 1) = (net.length : Int) - 1 := w64 (by omega) (by omega)
        have hx48 := UInt8.toNat_lt x
        have hy48 := UInt8.toNat_lt y
        by_cases hA : 0 ≤ st48 x ∧ st48 x < net.length
        · by_cases hB : 0 ≤ st48 y ∧ st48 y < net.length
          · have hok : okP net.length [x, y] := ⟨rfl, hA, hB⟩
            have hpf : pairsF ([x, y] :: pcs.drop (i + 1)) net = pairsF (pcs.drop (i + 1)) (stepP net (st48 x) (st48 y)) := by rw [pairsF, if_pos hok]; rfl
            rw [hpf] at hz hs
            have dA : (decide ((0 : Int) ≤ st48 x) && decide (st48 x ≤ (net.length : Int) - 1)) = true := by
              rw [decide_eq_true hA.1, decide_eq_true (by have := hA.2; omega)]; rfl
            have dB : (decide ((0 : Int) ≤ st48 y) && decide (st48 y ≤ (net.length : Int) - 1)) = true := by
              rw [decide_eq_true hB.1, decide_eq_true (by have := hB.2; omega)]; rfl
            refine ev_eq _ (fun k => ?_) (ih (i + 1) (stepP net (st48 x) (st48 y)) (by omega) (by rw [stepP_len]; exact h6) hz hs)
            simp only [spec_ReadPlace.j2]
            rw [if_pos trivial, if_pos p2, if_pos p1, rdOf_mk pcs i hi, hxy, if_pos (two_s x y), if_pos (two_0 x y), if_pos (two_1 x y), bt0, bt1, eA, eB, en, l1In_eq, Option.bind_some, dA, if_pos rfl, l1In_eq, Option.bind_some, dB, if_pos rfl, if_pos hA.1, if_pos hA.2, if_pos hB.1, Option.bind_some, if_pos hB.2, e3]
            rfl
          · have hok : ¬ okP net.length [x, y] := fun h => hB h.2.2
            rw [hz (by rw [pairsF, if_neg hok])]
            have dA : (decide ((0 : Int) ≤ st48 x) && decide (st48 x ≤ (net.length : Int) - 1)) = true := by
              rw [decide_eq_true hA.1, decide_eq_true (by have := hA.2; omega)]; rfl
            have dB : (decide ((0 : Int) ≤ st48 y) && decide (st48 y ≤ (net.length : Int) - 1)) = false := by
              rw [Bool.and_eq_false_iff, decide_eq_false_iff_not, decide_eq_false_iff_not]; omega
            refine ev_ret (fun k => ?_)
            simp only [spec_ReadPlace.j2]
            rw [if_pos trivial, if_pos p2, if_pos p1, rdOf_mk pcs i hi, hxy, if_pos (two_s x y), if_pos (two_0 x y), if_pos (two_1 x y), bt0, bt1, eA, eB, en, l1In_eq, Option.bind_some, dA, if_pos rfl, l1In_eq, Option.bind_some, dB]
            rfl
        · have hok : ¬ okP net.length [x, y] := fun h => hA h.2.1
          rw [hz (by rw [pairsF, if_neg hok])]
          have dA : (decide ((0 : Int) ≤ st48 x) && decide (st48 x ≤ (net.length : Int) - 1)) = false := by
            rw [Bool.and_eq_false_iff, decide_eq_false_iff_not, decide_eq_false_iff_not]; omega
          refine ev_ret (fun k => ?_)
          simp only [spec_ReadPlace.j2]
          rw [if_pos trivial, if_pos p2, if_pos p1, rdOf_mk pcs i hi, hxy, if_pos (two_s x y), if_pos (two_0 x y), if_pos (two_1 x y), bt0, bt1, eA, eB, en, l1In_eq, Option.bind_some, dA]
          rfl
      · have hok : ¬ okP net.length pcs[i] := fun h => hl h.1
        rw [hz (by rw [pairsF, if_neg hok])]
        refine ev_ret (fun k => ?_)
        simp only [spec_ReadPlace.j2]
        rw [if_pos trivial, if_pos p2, if_pos p1, rdOf_mk pcs i hi, if_neg (by rw [mk_size]; omega)]
        rfl
theorem impl_pairs (s w0 w1 w2 w3 : List UInt8) (kinds : Int) (pcs : List (List UInt8)) (hp : pcs.length ≤ 1048577) (r : RP) : ∀ (d i : Nat) (net : List Int), i + d = pcs.length → net.length ≤ 6 → (pairsF (pcs.drop i) net = none → r = zeroR) → (∀ net', pairsF (pcs.drop i) net = some net' → Ev (fun k => impl_ReadPlace.j3 k (mk s) [mk w0, mk w1, mk w2, mk w3] net' kinds) r) →
    Ev (fun k => impl_ReadPlace.l0 k (mk s) [mk w0, mk w1, mk w2, mk w3] (net.length : Int) (pcs.map mk) ((pcs.map mk).length : Int) (i : Int) net kinds) r := by
  intro d
  induction d with
  | zero =>
    intro i net h1 h6 hz hs
    rw [List.drop_eq_nil_of_le (by omega)] at hz hs
    refine ev_eq _ (fun k => ?_) (hs net rfl)
    simp only [impl_ReadPlace.l0]
    rw [if_neg (by rw [List.length_map]; omega)]
  | succ d ih =>
    intro i net h1 h6 hz hs
    have hi : i < pcs.length := by omega
    rw [List.drop_eq_getElem_cons hi] at hz hs
    have p1 : (i : Int) < ((pcs.map mk).length : Int) := by rw [List.length_map]; omega
    have p2 : (0 : Int) ≤ (i : Int) := by omega
    have e3 := stepS0 i (by omega)
    by_cases hl : pcs[i].length = 2
    · obtain ⟨x, y, hxy⟩ := two_of hl
      rw [hxy] at hz hs
      have eA := w48 x
      have eB := w48 y
      by_cases hA : 0 ≤ st48 x ∧ st48 x < net.length
      · by_cases hB : 0 ≤ st48 y ∧ st48 y < net.length
        · have hok : okP net.length [x, y] := ⟨rfl, hA, hB⟩
          have hpf : pairsF ([x, y] :: pcs.drop (i + 1)) net = pairsF (pcs.drop (i + 1)) (stepP net (st48 x) (st48 y)) := by rw [pairsF, if_pos hok]; rfl
          rw [hpf] at hz hs
          have h := ih (i + 1) (stepP net (st48 x) (st48 y)) (by omega) (by rw [stepP_len]; exact h6) hz hs
          rw [stepP_len] at h
          refine ev_eq _ (fun k => ?_) h
          simp only [impl_ReadPlace.l0]
          rw [if_pos p1, if_pos p2, if_pos p1, rdOf_mk pcs i hi, hxy, if_pos (two_s x y), if_pos (two_0 x y), if_pos (two_1 x y), bt0, bt1, eA, eB, if_neg (by have := hA.1; omega), if_neg (by have := hA.2; omega), if_neg (by have := hB.1; omega), if_neg (by have := hB.2; omega), if_pos hA.1, if_pos hA.2, if_pos hB.1, Option.bind_some, if_pos hB.2, e3]
          rfl
        · have hok : ¬ okP net.length [x, y] := fun h => hB h.2.2
          rw [hz (by rw [pairsF, if_neg hok])]
          refine ev_ret (fun k => ?_)
          simp only [impl_ReadPlace.l0]
          rw [if_pos p1, if_pos p2, if_pos p1, rdOf_mk pcs i hi, hxy, if_pos (two_s x y), if_pos (two_0 x y), if_pos (two_1 x y), bt0, bt1, eA, eB, if_neg (by have := hA.1; omega), if_neg (by have := hA.2; omega)]
          by_cases hB0 : st48 y < 0
          · rw [if_pos hB0]; rfl
          · rw [if_neg hB0, if_pos (by omega)]; rfl
      · have hok : ¬ okP net.length [x, y] := fun h => hA h.2.1
        rw [hz (by rw [pairsF, if_neg hok])]
        refine ev_ret (fun k => ?_)
        simp only [impl_ReadPlace.l0]
        rw [if_pos p1, if_pos p2, if_pos p1, rdOf_mk pcs i hi, hxy, if_pos (two_s x y), if_pos (two_0 x y), if_pos (two_1 x y), bt0, bt1, eA, eB]
        by_cases hA0 : st48 x < 0
        · rw [if_pos hA0]; rfl
        · rw [if_neg hA0, if_pos (by omega)]; rfl
    · have hok : ¬ okP net.length pcs[i] := fun h => hl h.1
      rw [hz (by rw [pairsF, if_neg hok])]
      refine ev_ret (fun k => ?_)
      simp only [impl_ReadPlace.l0]
      rw [if_pos p1, if_pos p2, if_pos p1, rdOf_mk pcs i hi, if_neg (by rw [mk_size]; omega)]
      rfl
end Go.Proofs.YtnhgiincboocaaaDoor.PFnExactStoreSyncPure
