import Derived.Test.YtnhgiincboocaaaDoorUH
namespace Go.Proofs.YtnhgiincboocaaaDoor.PFnExactStoreOkPure
open Go.RowKit Go.Proofs.YtnhgiincboocaaaDoor.PFnExactStoreOk Go.Proofs.YtnhgiincboocaaaDoorW.PrintWords Go.Proofs.YtnhgiincboocaaaDoorW.PrintLast Go.Proofs.YtnhgiincboocaaaDoorW.PrintMore Go.Proofs.YtnhgiincboocaaaDoor.PFnExactStoreOkPure
set_option linter.unusedVariables false
theorem digits_step (w : List UInt8) (hw : w.length ≤ 6) (n : Nat) (hn : n < w.length) (v : Int) (h0 : 0 ≤ v) (h5 : v ≤ 100000) (r : Int) (h1 : 48 ≤ (w[n]).toNat → (w[n]).toNat ≤ 57 → Ev (fun k => spec_l1Digits.l0 k (mk w) (10 * v + st48 w[n]) ((n + 1 : Nat) : Int)) r) (h2 : ¬ (48 ≤ (w[n]).toNat ∧ (w[n]).toNat ≤ 57) → r = -1) :
    Ev (fun k => spec_l1Digits.l0 k (mk w) v (n : Int)) r := by
  have hb := UInt8.toNat_lt w[n]
  have p1 : (n : Int) < ((mk w).size : Int) := by rw [mk_size]; omega
  have p2 : (0 : Int) ≤ (n : Int) := by omega
  by_cases h : 48 ≤ (w[n]).toNat ∧ (w[n]).toNat ≤ 57
  · have p3 : ¬ ((w[n]).toNat : Int) < 48 := by omega
    have p4 : ¬ ((w[n]).toNat : Int) > 57 := by omega
    have e : (((w[n]).toNat : Int) - 48) % 256 = st48 w[n] := by unfold st48; omega
    have e1 : wrap64 (10 * v) = 10 * v := w64 (by omega) (by omega)
    have e2 : wrap64 (10 * v + st48 w[n]) = 10 * v + st48 w[n] := by unfold st48; exact w64 (by omega) (by omega)
    refine ev_eq _ (fun k => ?_) (h1 h.1 h.2)
    simp only [spec_l1Digits.l0]
    rw [if_pos p1, if_pos p2, bt_mk w n hn, if_neg p3, if_neg p4, stepS0 n (by omega), e1, e, e2]
  · rw [h2 h]
    refine ev_ret (fun k => ?_)
    simp only [spec_l1Digits.l0]
    rw [if_pos p1, if_pos p2, bt_mk w n hn]
    by_cases h48 : ((w[n]).toNat : Int) < 48
    · rw [if_pos h48]
    · rw [if_neg h48, if_pos (by omega)]
theorem digits_l0 (w : List UInt8) (hw : w.length ≤ 6) : ∀ (d n : Nat) (v : Int), n + d = w.length → 0 ≤ v → v < ((10 ^ n : Nat) : Int) →
    ∃ r, Ev (fun k => spec_l1Digits.l0 k (mk w) v (n : Int)) r ∧ (r = -1 ∨ (v ≤ r ∧ (1 ≤ d → 10 * v ≤ r) ∧ (d = 0 → r = v))) := by
  intro d
  induction d with
  | zero =>
    intro n v h1 h0 hv
    refine ⟨v, ev_ret (fun k => ?_), Or.inr ⟨Int.le_refl _, fun h => absurd h (by omega), fun _ => rfl⟩⟩
    simp only [spec_l1Digits.l0]
    rw [if_neg (by rw [mk_size]; omega)]
  | succ d ih =>
    intro n v h1 h0 hv
    have hn : n < w.length := by omega
    have hp : (10 : Nat) ^ n ≤ 10 ^ 5 := Nat.pow_le_pow_right (by decide) (by omega)
    have h5 : (10 : Nat) ^ 5 = 100000 := by decide
    rw [h5] at hp
    by_cases h : 48 ≤ (w[n]).toNat ∧ (w[n]).toNat ≤ 57
    · have hs : 0 ≤ st48 w[n] ∧ st48 w[n] ≤ 9 := by unfold st48; omega
      obtain ⟨r, hr, hc⟩ := ih (n + 1) (10 * v + st48 w[n]) (by omega) (by omega) (by rw [Nat.pow_succ]; omega)
      refine ⟨r, digits_step w hw n hn v h0 (by omega) r (fun _ _ => hr) (fun h' => absurd h h'), ?_⟩
      rcases hc with hc | ⟨c1, _, _⟩
      · exact Or.inl hc
      · exact Or.inr ⟨by omega, fun _ => by omega, fun h => absurd h (by omega)⟩
    · exact ⟨-1, digits_step w hw n hn v h0 (by omega) (-1) (fun a b => absurd ⟨a, b⟩ h) (fun _ => rfl), Or.inl rfl⟩
theorem digits_ev (w : List UInt8) : ∃ v, Ev (fun k => spec_l1Digits.f k (mk w)) v ∧ ((∃ b, w = [b] ∧ 48 ≤ b.toNat ∧ b.toNat ≤ 57 ∧ v = st48 b) ∨ (v = -1 ∧ ∀ b, w = [b] → b.toNat < 48 ∨ 57 < b.toNat) ∨ (10 ≤ v ∧ w.length ≠ 1)) := by
  unfold spec_l1Digits.f
  by_cases hlen : 1 ≤ w.length ∧ w.length ≤ 6
  · have ein : spec_l1In.f ((mk w).size : Int) 1 6 = some true := by
      rw [l1In_eq, decide_eq_true (by rw [mk_size]; omega), decide_eq_true (by rw [mk_size]; omega)]; rfl
    by_cases h1 : w.length = 1
    · obtain ⟨b, rfl⟩ : ∃ b, w = [b] := by
        match w, h1 with
        | [b], _ => exact ⟨b, rfl⟩
      have p1 : ¬ ((mk [b]).size : Int) > 1 := by rw [mk_size, List.length_singleton]; omega
      have start : ∀ v, Ev (fun k => spec_l1Digits.l0 k (mk [b]) 0 0) v → Ev (fun k => (spec_l1In.f ((mk [b]).size : Int) 1 6).bind fun t110 => (if t110 = true then (if ((mk [b]).size : Int) > 1 then (if 0 < ((mk [b]).size : Int) then (spec_l1Digits.j0 k (mk [b]) ((bt (mk [b]) 0) == 48)) else (none)) else (spec_l1Digits.j0 k (mk [b]) false)) else (spec_l1Digits.j0 k (mk [b]) true))) v := by
        intro v hv
        refine ev_bind_c ein (Ev.congr (fun k => if_pos rfl) (Ev.congr (fun k => if_neg p1) (ev_eq _ (fun k => ?_) hv)))
        simp only [spec_l1Digits.j0]
        rw [if_neg (by decide)]
      by_cases h : 48 ≤ b.toNat ∧ b.toNat ≤ 57
      · obtain ⟨r, hr, hc⟩ := digits_l0 [b] hlen.2 0 1 (10 * 0 + st48 b) rfl (by unfold st48; omega) (by unfold st48; have : (10 : Nat) ^ 1 = 10 := rfl; rw [this]; omega)
        have er : r = st48 b := by
          rcases hc with hc | ⟨_, _, hc⟩
          · obtain ⟨K, hK⟩ := hr
            have h2 := hK (K + 1) (by omega)
            simp only [spec_l1Digits.l0] at h2
            rw [if_neg (by rw [mk_size, List.length_singleton]; omega)] at h2
            injection h2 with h2
            omega
          · have := hc rfl; omega
        subst er
        exact ⟨st48 b, start _ (digits_step [b] hlen.2 0 Nat.zero_lt_one 0 (by decide) (by decide) _ (fun _ _ => hr) (fun h' => absurd h h')), Or.inl ⟨b, rfl, h.1, h.2, rfl⟩⟩
      · refine ⟨-1, start _ (digits_step [b] hlen.2 0 Nat.zero_lt_one 0 (by decide) (by decide) _ (fun a c => absurd ⟨a, c⟩ h) (fun _ => rfl)), Or.inr (Or.inl ⟨rfl, fun b' hb' => ?_⟩)⟩
        injection hb' with hb' _
        subst hb'
        omega
    · have p1 : ((mk w).size : Int) > 1 := by rw [mk_size]; omega
      have p2 : 0 < ((mk w).size : Int) := by omega
      have hn : 0 < w.length := by omega
      have hnb : ∀ b, w = [b] → b.toNat < 48 ∨ 57 < b.toNat := fun b hb => absurd (by rw [hb]; rfl) h1
      have start : ∀ c v, (bt (mk w) 0 == 48) = c → Ev (fun k => spec_l1Digits.j0 k (mk w) c) v → Ev (fun k => (spec_l1In.f ((mk w).size : Int) 1 6).bind fun t110 => (if t110 = true then (if ((mk w).size : Int) > 1 then (if 0 < ((mk w).size : Int) then (spec_l1Digits.j0 k (mk w) ((bt (mk w) 0) == 48)) else (none)) else (spec_l1Digits.j0 k (mk w) false)) else (spec_l1Digits.j0 k (mk w) true))) v := by
        intro c v hc hv
        refine ev_bind_c ein (Ev.congr (fun k => if_pos rfl) (Ev.congr (fun k => if_pos p1) (Ev.congr (fun k => if_pos p2) ?_)))
        rw [hc]
        exact hv
      by_cases hz : bt (mk w) 0 = 48
      · refine ⟨-1, start true _ (by rw [hz]; rfl) (ev_ret (fun k => ?_)), Or.inr (Or.inl ⟨rfl, hnb⟩)⟩
        simp only [spec_l1Digits.j0]
        rw [if_pos trivial]
      · have hbt := bt_mk w 0 hn
        have hz' : ¬ (w[0]).toNat = 48 := by
          intro h
          apply hz
          have e0 : ((0 : Nat) : Int) = 0 := rfl
          rw [← e0, hbt, h]; rfl
        have go : ∀ v, Ev (fun k => spec_l1Digits.l0 k (mk w) 0 0) v → Ev (fun k => spec_l1Digits.j0 k (mk w) false) v := by
          intro v hv
          refine ev_eq _ (fun k => ?_) hv
          simp only [spec_l1Digits.j0]
          rw [if_neg (by decide)]
        by_cases h : 48 ≤ (w[0]).toNat ∧ (w[0]).toNat ≤ 57
        · obtain ⟨r, hr, hc⟩ := digits_l0 w hlen.2 (w.length - 1) 1 (10 * 0 + st48 w[0]) (by omega) (by unfold st48; omega) (by unfold st48; have : (10 : Nat) ^ 1 = 10 := rfl; rw [this]; omega)
          refine ⟨r, start false _ (beq_eq_false_iff_ne.2 hz) (go _ (digits_step w hlen.2 0 hn 0 (by decide) (by decide) _ (fun _ _ => hr) (fun h' => absurd h h'))), ?_⟩
          rcases hc with hc | ⟨_, hc, _⟩
          · exact Or.inr (Or.inl ⟨hc, hnb⟩)
          · have h3 := hc (by omega)
            have h4 : 1 ≤ st48 w[0] := by unfold st48; omega
            exact Or.inr (Or.inr ⟨by omega, h1⟩)
        · exact ⟨-1, start false _ (beq_eq_false_iff_ne.2 hz) (go _ (digits_step w hlen.2 0 hn 0 (by decide) (by decide) _ (fun a c => absurd ⟨a, c⟩ h) (fun _ => rfl))), Or.inr (Or.inl ⟨rfl, hnb⟩)⟩
  · have ein : spec_l1In.f ((mk w).size : Int) 1 6 = some false := by
      rw [l1In_eq]
      refine congrArg some ?_
      rw [Bool.and_eq_false_iff, decide_eq_false_iff_not, decide_eq_false_iff_not, mk_size]
      omega
    refine ⟨-1, ev_bind_c ein (Ev.congr (fun k => if_neg (by decide)) (ev_ret (fun k => ?_))), Or.inr (Or.inl ⟨rfl, fun b hb => absurd (by rw [hb]; exact ⟨Nat.le_refl 1, by simp⟩) hlen⟩)⟩
    simp only [spec_l1Digits.j0]
    rw [if_pos trivial]
end Go.Proofs.YtnhgiincboocaaaDoor.PFnExactStoreOkPure
