import Derived.Test.YtkfnehgmgebcbaaDoorLH
namespace Go.Proofs.YtkfnehgmgebcbaaDoor.PFnPlaceTextPure
open Go.RowKit Go.Proofs.YtkfnehgmgebcbaaDoor.PFnPlaceText Go.Proofs.YtkfnehgmgebcbaaDoorW.PrintWords Go.Proofs.YtkfnehgmgebcbaaDoorW.PrintLast Go.Proofs.YtkfnehgmgebcbaaDoorW.PrintMore Go.Proofs.YtkfnehgmgebcbaaDoor.PFnPlaceTextPure
set_option linter.unusedVariables false
theorem or_dec : ∀ x : Fin 64, ∀ b : Fin 6, (0 ≤ Go.bits .or .i64 (x.val : Int) (shl .i64 1 (b.val : Int)) ∧ Go.bits .or .i64 (x.val : Int) (shl .i64 1 (b.val : Int)) < 64) ∧ ∀ j : Fin 6, tB (Go.bits .or .i64 (x.val : Int) (shl .i64 1 (b.val : Int))) (j.val : Int) = if j = b then 1 else tB (x.val : Int) (j.val : Int) := by decide +kernel
theorem or_bit {x : Int} (h0 : 0 ≤ x) (h1 : x < 64) (b : Nat) (hb : b < 6) : (0 ≤ Go.bits .or .i64 x (shl .i64 1 (b : Int)) ∧ Go.bits .or .i64 x (shl .i64 1 (b : Int)) < 64) ∧ ∀ j : Nat, j < 6 → tB (Go.bits .or .i64 x (shl .i64 1 (b : Int))) (j : Int) = if j = b then 1 else tB x (j : Int) := by
  obtain ⟨m, rfl⟩ := Int.eq_ofNat_of_zero_le h0
  obtain ⟨h2, h3⟩ := or_dec ⟨m, by omega⟩ ⟨b, hb⟩
  refine ⟨h2, fun j hj => ?_⟩
  have := h3 ⟨j, hj⟩
  simpa [Fin.ext_iff] using this
theorem bits_ext_dec : ∀ x : Fin 64, (x.val : Int) = tB (x.val : Int) 0 + 2 * tB (x.val : Int) 1 + 4 * tB (x.val : Int) 2 + 8 * tB (x.val : Int) 3 + 16 * tB (x.val : Int) 4 + 32 * tB (x.val : Int) 5 := by decide +kernel
theorem bits_ext {x y : Int} (hx0 : 0 ≤ x) (hx : x < 64) (hy0 : 0 ≤ y) (hy : y < 64) (h : ∀ j : Nat, j < 6 → tB x (j : Int) = tB y (j : Int)) : x = y := by
  obtain ⟨m, rfl⟩ := Int.eq_ofNat_of_zero_le hx0
  obtain ⟨n, rfl⟩ := Int.eq_ofNat_of_zero_le hy0
  have e1 := bits_ext_dec ⟨m, by omega⟩
  have e2 := bits_ext_dec ⟨n, by omega⟩
  have h0 : tB (m : Int) 0 = tB (n : Int) 0 := h 0 (by omega)
  have h1 : tB (m : Int) 1 = tB (n : Int) 1 := h 1 (by omega)
  have h2 : tB (m : Int) 2 = tB (n : Int) 2 := h 2 (by omega)
  have h3 : tB (m : Int) 3 = tB (n : Int) 3 := h 3 (by omega)
  have h4 : tB (m : Int) 4 = tB (n : Int) 4 := h 4 (by omega)
  have h5 : tB (m : Int) 5 = tB (n : Int) 5 := h 5 (by omega)
  have e1' : (m : Int) = tB (m : Int) 0 + 2 * tB (m : Int) 1 + 4 * tB (m : Int) 2 + 8 * tB (m : Int) 3 + 16 * tB (m : Int) 4 + 32 * tB (m : Int) 5 := e1
  have e2' : (n : Int) = tB (n : Int) 0 + 2 * tB (n : Int) 1 + 4 * tB (n : Int) 2 + 8 * tB (n : Int) 3 + 16 * tB (n : Int) 4 + 32 * tB (n : Int) 5 := e2
  exact e1'.trans ((by rw [h0, h1, h2, h3, h4, h5] : _ = _).trans e2'.symm)
theorem rd_set (l : List Int) (i : Nat) (v : Int) (k : Nat) (hi : i < l.length) : rd (l.set i v) (k : Int) = if k = i then v else rd l (k : Int) := by
  rw [rd_nat, rd_nat, List.getD_eq_getElem?_getD, List.getD_eq_getElem?_getD, List.getElem?_set]
  by_cases e : i = k
  · subst e
    rw [if_pos rfl, if_pos hi, if_pos rfl]; rfl
  · rw [if_neg e, if_neg (fun h => e h.symm)]
/-- What a net is, told by its bits. -/
structure NetB (net : List Int) : Prop where
  len : net.length ≤ 6
  rng : ∀ k : Nat, k < net.length → 0 ≤ rd net k ∧ rd net k < 64
  sym : ∀ i j : Nat, i < net.length → j < net.length → tB (rd net i) j = tB (rd net j) i
  irr : ∀ i : Nat, i < net.length → tB (rd net i) i = 0
  out : ∀ i j : Nat, i < net.length → net.length ≤ j → j < 6 → tB (rd net i) j = 0
theorem tB_out_dec : ∀ n : Fin 7, ∀ x : Fin 64, x.val < 2 ^ n.val → ∀ j : Fin 6, n.val ≤ j.val → tB (x.val : Int) (j.val : Int) = 0 := by decide +kernel
theorem netB_of {net : List Int} (h : netI net = true) : NetB net := by
  have h' := h
  rw [net_eq] at h'
  simp only [netI, rowI, inR, Bool.and_eq_true, decide_eq_true_eq, allFrom_iff] at h
  simp only [netS, pairS, inR, Bool.and_eq_true, decide_eq_true_eq, allFrom_iff] at h'
  obtain ⟨⟨h1, h6⟩, h2⟩ := h
  obtain ⟨⟨_, _⟩, h3⟩ := h'
  have p : (2 : Int) ^ net.length ≤ 64 := by rw [← shl_one (show net.length ≤ 6 by omega)]; exact shl_le _ (by omega)
  have rng : ∀ k : Nat, k < net.length → 0 ≤ rd net k ∧ rd net k < 2 ^ net.length := fun k hk => (h2 k (by omega) (by omega)).1.1
  refine ⟨h6, fun k hk => ⟨(rng k hk).1, by have := (rng k hk).2; omega⟩, fun i j hi hj => (h3 i (by omega) (by omega) j (by omega) (by omega)).1, fun i hi => ?_, fun i j hi hn hj => ?_⟩
  · have h4 := (h3 i (by omega) (by omega) i (by omega) (by omega)).2
    rcases tB_two (x := rd net i) (j := i) (rng i hi).1 (by have := (rng i hi).2; omega) (by omega) with e | e
    · exact e
    · simp [e] at h4
  · obtain ⟨m, hm⟩ := Int.eq_ofNat_of_zero_le (rng i hi).1
    have hlt := (rng i hi).2
    rw [hm] at hlt ⊢
    have hm2 : m < 2 ^ net.length := by exact_mod_cast hlt
    have := Nat.pow_le_pow_right (show 0 < 2 by omega) h6
    exact tB_out_dec ⟨net.length, by omega⟩ ⟨m, by omega⟩ hm2 ⟨j, hj⟩ hn
/-- The pairs ahead of (i, j). -/
def Dn (i j a b : Nat) : Prop := min a b < i ∨ min a b = i ∧ max a b < j
instance (i j a b : Nat) : Decidable (Dn i j a b) := by unfold Dn; infer_instance
def InvP (net : List Int) (i j : Nat) (cur : List Int) : Prop := cur.length = net.length ∧ ∀ k : Nat, k < net.length → (0 ≤ rd cur k ∧ rd cur k < 64) ∧ ∀ m : Nat, m < 6 → tB (rd cur k) m = if Dn i j k m then tB (rd net k) m else 0
theorem inv_same {net cur : List Int} {i j i' j' : Nat} (h : InvP net i j cur) (hs : ∀ k m : Nat, k < net.length → m < 6 → tB (rd net k) m ≠ 0 → (Dn i j k m ↔ Dn i' j' k m)) : InvP net i' j' cur := by
  refine ⟨h.1, fun k hk => ⟨(h.2 k hk).1, fun m hm => ?_⟩⟩
  rw [(h.2 k hk).2 m hm]
  by_cases e : tB (rd net k) m = 0
  · rw [e]; simp
  · have := hs k m hk hm e
    by_cases d : Dn i j k m
    · rw [if_pos d, if_pos (this.1 d)]
    · rw [if_neg d, if_neg (fun x => d (this.2 x))]
theorem st48_dg (i : Nat) (h : i < 10) : st48 (dg (i : Int)) = i := by
  unfold st48 dg
  simp only [Int.toNat_natCast]
  have : (UInt8.ofNat (48 + i)).toNat = 48 + i := by simp; omega
  rw [this]
  omega
theorem inv_step {net cur : List Int} (hn : NetB net) {i j : Nat} (hi : i < j) (hj : j < net.length) (h1 : tB (rd net i) j = 1) (h : InvP net i j cur) : InvP net i (j + 1) (stepP cur (i : Int) (j : Int)) := by
  have h6 := hn.len
  obtain ⟨hl, hc⟩ := h
  have hij : i < cur.length := by omega
  have hjj : j < cur.length := by omega
  refine ⟨by rw [stepP_len]; exact hl, fun k hk => ?_⟩
  have ei : ((i : Int)).toNat = i := Int.toNat_natCast i
  have ej : ((j : Int)).toNat = j := Int.toNat_natCast j
  obtain ⟨oi, bi⟩ := or_bit (hc i (by omega)).1.1 (hc i (by omega)).1.2 j (by omega)
  have rj : rd (cur.set i (Go.bits .or .i64 (rd cur i) (shl .i64 1 (j : Int)))) (j : Int) = rd cur j := by rw [rd_set _ _ _ _ hij, if_neg (by omega)]
  obtain ⟨oj, bj⟩ := or_bit (hc j hj).1.1 (hc j hj).1.2 i (by omega)
  have e : rd (stepP cur (i : Int) (j : Int)) (k : Int) = if k = j then Go.bits .or .i64 (rd cur j) (shl .i64 1 (i : Int)) else if k = i then Go.bits .or .i64 (rd cur i) (shl .i64 1 (j : Int)) else rd cur k := by
    unfold stepP
    rw [ei, ej, rj, rd_set _ _ _ _ (by rw [List.length_set]; exact hjj)]
    by_cases ekj : k = j
    · rw [if_pos ekj, if_pos ekj]
    · rw [if_neg ekj, if_neg ekj, rd_set _ _ _ _ hij]
  rw [e]
  by_cases ekj : k = j
  · subst ekj
    rw [if_pos rfl]
    refine ⟨oj, fun m hm => ?_⟩
    rw [bj m hm]
    by_cases em : m = i
    · subst em
      rw [if_pos rfl, if_pos (by unfold Dn; omega), hn.sym k m hk (by omega)]
      exact h1.symm
    · rw [if_neg em, (hc k hk).2 m hm]
      by_cases d : Dn i k k m
      · rw [if_pos d, if_pos (by unfold Dn at d ⊢; omega)]
      · by_cases d2 : Dn i (k + 1) k m
        · rw [if_neg d, if_pos d2]
          have : m = k := by unfold Dn at d d2; omega
          rw [this, hn.irr k hk]
        · rw [if_neg d, if_neg d2]
  · rw [if_neg ekj]
    by_cases eki : k = i
    · subst eki
      rw [if_pos rfl]
      refine ⟨oi, fun m hm => ?_⟩
      rw [bi m hm]
      by_cases em : m = j
      · subst em
        rw [if_pos rfl, if_pos (by unfold Dn; omega), h1]
      · rw [if_neg em, (hc k hk).2 m hm]
        by_cases d : Dn k j k m
        · rw [if_pos d, if_pos (by unfold Dn at d ⊢; omega)]
        · rw [if_neg d, if_neg (by unfold Dn at d ⊢; omega)]
    · rw [if_neg eki]
      refine ⟨(hc k hk).1, fun m hm => ?_⟩
      rw [(hc k hk).2 m hm]
      by_cases d : Dn i j k m
      · rw [if_pos d, if_pos (by unfold Dn at d ⊢; omega)]
      · by_cases d2 : Dn i (j + 1) k m
        · exact absurd d2 (by unfold Dn at d d2 ⊢; omega)
        · rw [if_neg d, if_neg d2]
theorem pairs_row {net : List Int} (hn : NetB net) (rest : List (List UInt8)) (i : Nat) (hi : i < net.length) : ∀ (d j : Nat) (cur : List Int), j + d = net.length → i < j → InvP net i j cur → ∃ cur', InvP net i net.length cur' ∧ pairsF (rowW net i d j ++ rest) cur = pairsF rest cur' := by
  have h6 := hn.len
  intro d
  induction d with
  | zero =>
    intro j cur h1 h2 h
    have e : j = net.length := by omega
    subst e
    exact ⟨cur, h, by simp [rowW]⟩
  | succ d ih =>
    intro j cur h1 h2 h
    rcases tB_two (hn.rng i hi).1 (hn.rng i hi).2 (show j < 6 by omega) with e | e
    · obtain ⟨c, hc, hp⟩ := ih (j + 1) cur (by omega) (by omega) (inv_same h (fun k m hk hm hne => by
        constructor
        · intro x; unfold Dn at x ⊢; omega
        · intro x
          by_cases d2 : Dn i j k m
          · exact d2
          · exfalso
            have hmm : (k = i ∧ m = j) ∨ (k = j ∧ m = i) := by unfold Dn at x d2; omega
            rcases hmm with ⟨rfl, rfl⟩ | ⟨rfl, rfl⟩
            · exact hne e
            · exact hne (by rw [hn.sym k m hk hi]; exact e)))
      exact ⟨c, hc, by rw [rowW, if_pos e]; exact hp⟩
    · obtain ⟨c, hc, hp⟩ := ih (j + 1) (stepP cur (i : Int) (j : Int)) (by omega) (by omega) (inv_step hn h2 (by omega) e h)
      refine ⟨c, hc, ?_⟩
      rw [rowW, if_neg (by rw [e]; decide), List.cons_append, pairsF, if_pos (by
        refine ⟨rfl, ?_, ?_⟩
        · show 0 ≤ st48 (dg (i : Int)) ∧ st48 (dg (i : Int)) < cur.length
          rw [st48_dg i (by omega), h.1]; omega
        · show 0 ≤ st48 (dg (j : Int)) ∧ st48 (dg (j : Int)) < cur.length
          rw [st48_dg j (by omega), h.1]; omega)]
      show pairsF (rowW net i d (j + 1) ++ rest) (stepP cur (st48 (dg (i : Int))) (st48 (dg (j : Int)))) = _
      rw [st48_dg i (by omega), st48_dg j (by omega)]
      exact hp
theorem pairs_all {net : List Int} (hn : NetB net) : ∀ (d i : Nat) (cur : List Int), i + d = net.length → InvP net i (i + 1) cur → ∃ cur', InvP net net.length (net.length + 1) cur' ∧ pairsF (allW net d i) cur = some cur' := by
  have h6 := hn.len
  intro d
  induction d with
  | zero =>
    intro i cur h1 h
    have e : i = net.length := by omega
    subst e
    exact ⟨cur, h, rfl⟩
  | succ d ih =>
    intro i cur h1 h
    obtain ⟨c, hc, hp⟩ := pairs_row hn (allW net d (i + 1)) i (by omega) (net.length - (i + 1)) (i + 1) cur (by omega) (by omega) h
    obtain ⟨c2, hc2, hp2⟩ := ih (i + 1) c (by omega) (inv_same hc (fun k m hk hm hne => by
      have hmn : m < net.length := by
        by_cases q : m < net.length
        · exact q
        · exact absurd (hn.out k m hk (by omega) hm) hne
      have hkm : k ≠ m := fun q => hne (by rw [← q]; exact hn.irr k hk)
      unfold Dn; omega))
    exact ⟨c2, hc2, by rw [allW, hp]; exact hp2⟩
theorem pairs_net {net : List Int} (hn : NetB net) : pairsF (wires net) (List.replicate net.length 0) = some net := by
  have h6 := hn.len
  have z : ∀ k : Nat, k < net.length → rd (List.replicate net.length (0 : Int)) (k : Int) = 0 := fun k hk => by rw [rd_nat, List.getD_eq_getElem?_getD, List.getElem?_replicate, if_pos hk]; rfl
  have tz : ∀ m : Fin 6, tB 0 (m.val : Int) = 0 := by decide +kernel
  obtain ⟨c, hc, hp⟩ := pairs_all hn net.length 0 (List.replicate net.length 0) (by omega) ⟨List.length_replicate, fun k hk => by
    rw [z k hk]
    refine ⟨by decide, fun m hm => ?_⟩
    have e := tz ⟨m, hm⟩
    simp only at e
    rw [e]
    by_cases d : Dn 0 (0 + 1) k m
    · rw [if_pos d]
      have : k = 0 ∧ m = 0 := by unfold Dn at d; omega
      rw [this.1, this.2]
      exact (hn.irr 0 (by omega)).symm
    · rw [if_neg d]⟩
  unfold wires
  rw [hp]
  congr 1
  apply List.ext_getElem hc.1
  intro k h1 h2
  have e := bits_ext (hc.2 k h2).1.1 (hc.2 k h2).1.2 (hn.rng k h2).1 (hn.rng k h2).2 (fun j hj => by
    rw [(hc.2 k h2).2 j hj]
    by_cases q : j < net.length
    · by_cases qq : j = k
      · rw [qq, hn.irr k h2]; simp
      · rw [if_pos (by unfold Dn; omega)]
    · rw [hn.out k j h2 (by omega) hj]; simp)
  rw [rd_nat, rd_nat, List.getD_eq_getElem?_getD, List.getD_eq_getElem?_getD, List.getElem?_eq_getElem h1, List.getElem?_eq_getElem h2] at e
  exact e
end Go.Proofs.YtkfnehgmgebcbaaDoor.PFnPlaceTextPure
