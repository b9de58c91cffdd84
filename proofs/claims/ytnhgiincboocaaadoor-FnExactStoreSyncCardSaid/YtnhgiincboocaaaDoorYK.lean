import Derived.Test.YtnhgiincboocaaaDoorYJ
namespace Go.Proofs.YtnhgiincboocaaaDoor.PFnExactStoreSyncPure
open Go.RowKit Go.Proofs.YtnhgiincboocaaaDoor.PFnExactStoreSync Go.Proofs.YtnhgiincboocaaaDoorW.PrintWords Go.Proofs.YtnhgiincboocaaaDoorW.PrintLast Go.Proofs.YtnhgiincboocaaaDoorW.PrintMore Go.Proofs.YtnhgiincboocaaaDoor.PFnExactStoreSyncPure
set_option linter.unusedVariables false
theorem four_of {α : Type} {l : List α} (h : l.length = 4) : ∃ a b c d, l = [a, b, c, d] := by
  match l, h with
  | [a, b, c, d], _ => exact ⟨a, b, c, d, rfl⟩
theorem one_of {α : Type} {l : List α} (h : l.length = 1) : ∃ a, l = [a] := by
  match l, h with
  | [a], _ => exact ⟨a, rfl⟩
theorem spec_j0_true (x : ByteArray) (t : List ByteArray) : Ev (fun k => spec_ReadPlace.j0 k x t true) zeroR := by
  refine ev_ret (fun k => ?_)
  simp only [spec_ReadPlace.j0]
  rw [if_pos trivial]
  rfl
theorem impl_j0_true (x : ByteArray) (t : List ByteArray) : Ev (fun k => impl_ReadPlace.j0 k x t true) zeroR := by
  refine ev_ret (fun k => ?_)
  simp only [impl_ReadPlace.j0]
  rw [if_pos trivial]
  rfl
theorem impl_j1_true (x : ByteArray) (t : List ByteArray) (n : Int) : Ev (fun k => impl_ReadPlace.j1 k x t n true) zeroR := by
  refine ev_ret (fun k => ?_)
  simp only [impl_ReadPlace.j1]
  rw [if_pos trivial]
  rfl
/-- The first word is a number from 1 to 6. -/
def goodW (w : List UInt8) : Prop := ∃ b, w = [b] ∧ 49 ≤ b.toNat ∧ b.toNat ≤ 54
theorem impl_j0_ev (s w0 w1 w2 w3 : List UInt8) (b : UInt8) (h0 : w0 = [b]) (r : RP) (hg : 49 ≤ b.toNat ∧ b.toNat ≤ 54 → Ev (fun k => impl_ReadPlace.j1 k (mk s) [mk w0, mk w1, mk w2, mk w3] (st48 b) false) r) (hb : ¬ (49 ≤ b.toNat ∧ b.toNat ≤ 54) → r = zeroR) :
    Ev (fun k => impl_ReadPlace.j0 k (mk s) [mk w0, mk w1, mk w2, mk w3] false) r := by
  have eb : wrap64 (wrap64 (bt (mk w0) 0) - 48) = st48 b := by rw [h0]; exact w48 b
  have p0 : (0 : Int) < ((mk w0).size : Int) := by rw [h0, mk_size, List.length_singleton]; decide
  by_cases h1 : st48 b < 1
  · rw [hb (by unfold st48 at h1; omega)]
    refine ev_eq _ (fun k => ?_) (impl_j1_true (mk s) [mk w0, mk w1, mk w2, mk w3] (st48 b))
    simp only [impl_ReadPlace.j0]
    rw [if_neg (by decide), qlen, if_pos (by decide), q0, if_pos p0, eb, if_pos h1]
  · by_cases h6 : st48 b > 6
    · rw [hb (by unfold st48 at h6; omega)]
      refine ev_eq _ (fun k => ?_) (impl_j1_true (mk s) [mk w0, mk w1, mk w2, mk w3] (st48 b))
      simp only [impl_ReadPlace.j0]
      rw [if_neg (by decide), qlen, if_pos (by decide), q0, if_pos p0, eb, if_neg h1, decide_eq_true h6]
    · refine ev_eq _ (fun k => ?_) (hg (by unfold st48 at h1 h6; omega))
      simp only [impl_ReadPlace.j0]
      rw [if_neg (by decide), qlen, if_pos (by decide), q0, if_pos p0, eb, if_neg h1, decide_eq_false h6]
theorem read_ev (a0 : ByteArray) (hs : a0.size ≤ 1048576) : ∃ r : RP, Ev (fun k => spec_ReadPlace.f k a0) r ∧ Ev (fun k => impl_ReadPlace.f k a0) r ∧ r.1.length ≤ 1048576 ∧ r.2.2.1.length ≤ 1048576 := by
  obtain ⟨s, rfl⟩ : ∃ s, a0 = mk s := ⟨a0.data.toList, (mk_of a0).symm⟩
  have hl : s.length ≤ 1048576 := by rw [mk_size] at hs; exact hs
  have cut : Ev (fun k => spec_l1Cut.f k (mk s) 32) ((splitL 32 s).map mk) := by
    have h := cut_ev (mk s) hs 32
    rw [mk_list] at h
    exact h
  have spl : Ev (fun k => strings_Split.f k (mk s) (⟨#[32]⟩ : ByteArray)) ((splitL 32 s).map mk) := split_ev s hl 32
  unfold spec_ReadPlace.f impl_ReadPlace.f
  by_cases h4 : (splitL 32 s).length = 4
  · obtain ⟨w0, w1, w2, w3, hW⟩ := four_of h4
    have l1 := splitL_mem 32 s w1 (by rw [hW]; simp)
    have l3 := splitL_mem 32 s w3 (by rw [hW]; simp)
    have sne : s ≠ [] := by
      intro h
      rw [h] at h4
      exact absurd h4 (by decide)
    have eW : (splitL 32 s).map mk = [mk w0, mk w1, mk w2, mk w3] := by rw [hW]; rfl
    rw [eW] at cut spl
    obtain ⟨v0, hd0, c0⟩ := digits_ev w0
    obtain ⟨v2, hd2, c2⟩ := digits_ev w2
    have specf : ∀ r, Ev (fun k => spec_ReadPlace.j0 k (mk s) [mk w0, mk w1, mk w2, mk w3] (!(decide (1 ≤ v0) && decide (v0 ≤ 6)))) r → Ev (fun k => (spec_l1Cut.f k (mk s) 32).bind fun t146 => (if (t146.length : Int) = 4 then (if 0 < (t146.length : Int) then ((spec_l1Digits.f k (rdOf ByteArray.empty t146 0)).bind fun t150 => ((spec_l1In.f t150 1 6).bind fun t151 => (spec_ReadPlace.j0 k (mk s) t146 (!t151)))) else (none)) else (spec_ReadPlace.j0 k (mk s) t146 true))) r := by
      intro r hr
      refine Ev.bind cut (Ev.congr (fun k => if_pos (by rw [qlen])) (Ev.congr (fun k => if_pos (by rw [qlen]; decide)) (Ev.bind hd0 ?_)))
      exact ev_bind_c (l1In_eq v0 1 6) hr
    have implT : ∀ r, Ev (fun k => impl_ReadPlace.j0 k (mk s) [mk w0, mk w1, mk w2, mk w3] (if w0.length = 1 then ((mk w2).size : Int) != 1 else true)) r → Ev (fun k => (strings_Split.f k (mk s) (⟨#[32]⟩ : ByteArray)).bind fun t227 => (if (t227.length : Int) = 4 then (if 0 < (t227.length : Int) then (if ((rdOf ByteArray.empty t227 0).size : Int) = 1 then (if 2 < (t227.length : Int) then (impl_ReadPlace.j0 k (mk s) t227 (((rdOf ByteArray.empty t227 2).size : Int) != 1)) else (none)) else (impl_ReadPlace.j0 k (mk s) t227 true)) else (none)) else (impl_ReadPlace.j0 k (mk s) t227 true))) r := by
      intro r hr
      refine Ev.bind spl (Ev.congr (fun k => if_pos (by rw [qlen])) (Ev.congr (fun k => if_pos (by rw [qlen]; decide)) ?_))
      by_cases hw0 : w0.length = 1
      · rw [if_pos hw0] at hr
        exact Ev.congr (fun k => if_pos (by rw [q0, mk_size, hw0]; rfl)) (Ev.congr (fun k => if_pos (by rw [qlen]; decide)) hr)
      · rw [if_neg hw0] at hr
        exact Ev.congr (fun k => if_neg (by rw [q0, mk_size]; omega)) hr
    by_cases hg : goodW w0
    · obtain ⟨b0, e0, g1, g2⟩ := hg
      have ev0 : v0 = st48 b0 := by
        rcases c0 with ⟨b, hb, _, _, hv⟩ | ⟨_, hno⟩ | ⟨_, hno⟩
        · rw [e0] at hb
          injection hb with hb _
          rw [hv, hb]
        · have := hno b0 e0; omega
        · exact absurd (by rw [e0]; rfl) hno
      obtain ⟨n, hn⟩ : ∃ n : Nat, st48 b0 = n := ⟨(st48 b0).toNat, by unfold st48; omega⟩
      have hn6 : n ≤ 6 := by unfold st48 at hn; omega
      have hflag : (!(decide (1 ≤ v0) && decide (v0 ≤ 6))) = false := by
        rw [ev0, decide_eq_true (by unfold st48; omega), decide_eq_true (by unfold st48; omega)]; rfl
      rw [ev0, hn] at hd0
      have S := spec_core s w0 w1 w2 w3 (by omega) (by omega) n hn6 v2 hd0 hd2
      have hw0 : w0.length = 1 := by rw [e0]; rfl
      have lens : ∀ kd, (outR s w1 w3 n kd).1.length ≤ 1048576 ∧ (outR s w1 w3 n kd).2.2.1.length ≤ 1048576 := by
        intro kd
        have := outR_len s w1 w3 n kd
        omega
      refine ⟨outR s w1 w3 n v2, specf _ (by rw [hflag]; exact S), implT _ ?_, (lens v2).1, (lens v2).2⟩
      rw [if_pos hw0]
      by_cases hw2 : w2.length = 1
      · obtain ⟨b2, e2⟩ := one_of hw2
        have fl : (((mk w2).size : Int) != 1) = false := by rw [mk_size, hw2]; rfl
        rw [fl]
        have I := impl_core s w0 w1 w3 b2 (by omega) (by omega) n hn6
        have same : outR s w1 w3 n v2 = outR s w1 w3 n (st48 b2) := by
          rcases c2 with ⟨b, hb, _, _, hv⟩ | ⟨hv, hno⟩ | ⟨_, hno⟩
          · rw [e2] at hb
            injection hb with hb _
            rw [hv, hb]
          · have h2 := hno b2 e2
            rw [outR_bad s w1 w3 sne n v2 (by omega), outR_bad s w1 w3 sne n (st48 b2) (by unfold st48; omega)]
          · exact absurd hw2 hno
        rw [same]
        refine impl_j0_ev s w0 w1 w2 w3 b0 e0 _ (fun _ => ?_) (fun h => absurd ⟨g1, g2⟩ h)
        rw [hn, e2]
        exact I
      · have fl : (((mk w2).size : Int) != 1) = true := by
          rw [mk_size]
          exact bne_iff_ne.2 (by omega)
        rw [fl]
        have bad : outR s w1 w3 n v2 = zeroR := by
          refine outR_bad s w1 w3 sne n v2 ?_
          rcases c2 with ⟨b, hb, _⟩ | ⟨hv, _⟩ | ⟨hv, _⟩
          · exact absurd (by rw [hb]; rfl) hw2
          · omega
          · omega
        rw [bad]
        exact impl_j0_true _ _
    · have hflag : (!(decide (1 ≤ v0) && decide (v0 ≤ 6))) = true := by
        have : (decide (1 ≤ v0) && decide (v0 ≤ 6)) = false := by
          rw [Bool.and_eq_false_iff, decide_eq_false_iff_not, decide_eq_false_iff_not]
          rcases c0 with ⟨b, hb, h1, h2, hv⟩ | ⟨hv, _⟩ | ⟨hv, _⟩
          · by_cases h3 : 49 ≤ b.toNat ∧ b.toNat ≤ 54
            · exact absurd ⟨b, hb, h3.1, h3.2⟩ hg
            · rw [hv]; unfold st48; omega
          · omega
          · omega
        rw [this]; rfl
      refine ⟨zeroR, specf _ (by rw [hflag]; exact spec_j0_true _ _), implT _ ?_, Nat.zero_le _, Nat.zero_le _⟩
      by_cases hw0 : w0.length = 1
      · rw [if_pos hw0]
        obtain ⟨b0, e0⟩ := one_of hw0
        cases (((mk w2).size : Int) != 1) with
        | true => exact impl_j0_true _ _
        | false => exact impl_j0_ev s w0 w1 w2 w3 b0 e0 _ (fun h => absurd ⟨b0, e0, h.1, h.2⟩ hg) (fun _ => rfl)
      · rw [if_neg hw0]
        exact impl_j0_true _ _
  · have hne : ¬ ((((splitL 32 s).map mk).length : Nat) : Int) = 4 := by rw [List.length_map]; omega
    exact ⟨zeroR, Ev.bind cut (Ev.congr (fun k => if_neg hne) (spec_j0_true _ _)), Ev.bind spl (Ev.congr (fun k => if_neg hne) (impl_j0_true _ _)), Nat.zero_le _, Nat.zero_le _⟩
end Go.Proofs.YtnhgiincboocaaaDoor.PFnExactStoreSyncPure
