import Derived.Test.YtkfnehgmgebcbaaDoorLG
namespace Go.Proofs.YtkfnehgmgebcbaaDoor.PFnPlaceTextPure
open Go.RowKit Go.Proofs.YtkfnehgmgebcbaaDoor.PFnPlaceText Go.Proofs.YtkfnehgmgebcbaaDoorW.PrintWords Go.Proofs.YtkfnehgmgebcbaaDoorW.PrintLast Go.Proofs.YtkfnehgmgebcbaaDoorW.PrintMore Go.Proofs.YtkfnehgmgebcbaaDoor.PFnPlaceTextPure
set_option linter.unusedVariables false
theorem splitL_mem (c : UInt8) : ∀ (l p : List UInt8), p ∈ splitL c l → p.length ≤ l.length := by
  intro l
  induction l with
  | nil => intro p hp; rw [splitL] at hp; rw [List.mem_singleton.1 hp]; exact Nat.le_refl _
  | cons x l ih =>
    intro p hp
    rw [splitL] at hp
    split at hp
    · rcases List.mem_cons.1 hp with rfl | hp
      · simp
      · have := ih p hp; rw [List.length_cons]; omega
    · split at hp <;> rename_i h t
      · rw [List.mem_singleton.1 hp]; simp
      · rcases List.mem_cons.1 hp with rfl | hp
        · have := ih _ (by rw [t]; exact List.mem_cons_self)
          rw [List.length_cons, List.length_cons]; omega
        · have := ih p (by rw [t]; exact List.mem_cons_of_mem _ hp); rw [List.length_cons]; omega
theorem finR_bad (s : List UInt8) (hs : s ≠ []) (net : List Int) (kinds : Int) (st : List Int) (hk : ¬ (3 ≤ kinds ∧ kinds ≤ 5)) : finR s net kinds st = zeroR := by
  unfold finR
  have : textL net kinds st = [] := by
    unfold textL
    rw [if_neg]
    intro h
    have := ask_facts h
    omega
  rw [if_neg (by rw [this]; exact fun h => hs h.symm)]
theorem finR_len (s : List UInt8) (net : List Int) (kinds : Int) (st : List Int) : (finR s net kinds st).1.length ≤ net.length ∧ (finR s net kinds st).2.2.1.length ≤ st.length := by
  unfold finR
  split
  · exact ⟨Nat.le_refl _, Nat.le_refl _⟩
  · exact ⟨Nat.zero_le _, Nat.zero_le _⟩
def outP (s w3 : List UInt8) (kinds : Int) : Option (List Int) → RP
  | none => zeroR
  | some net => finR s net kinds (w3.map st48)
def outR (s w1 w3 : List UInt8) (n : Nat) (kinds : Int) : RP := if w1 = [46] then finR s (List.replicate n 0) kinds (w3.map st48) else outP s w3 kinds (pairsF (splitL 44 w1) (List.replicate n 0))
theorem outR_bad (s w1 w3 : List UInt8) (hs : s ≠ []) (n : Nat) (kinds : Int) (hk : ¬ (3 ≤ kinds ∧ kinds ≤ 5)) : outR s w1 w3 n kinds = zeroR := by
  unfold outR
  split
  · exact finR_bad s hs _ _ _ hk
  · cases pairsF (splitL 44 w1) (List.replicate n 0) with
    | none => rfl
    | some net => exact finR_bad s hs _ _ _ hk
theorem outR_len (s w1 w3 : List UInt8) (n : Nat) (kinds : Int) : (outR s w1 w3 n kinds).1.length ≤ n ∧ (outR s w1 w3 n kinds).2.2.1.length ≤ w3.length := by
  unfold outR
  split
  · have := finR_len s (List.replicate n 0) kinds (w3.map st48)
    rw [List.length_replicate, List.length_map] at this
    exact this
  · cases h : pairsF (splitL 44 w1) (List.replicate n 0) with
    | none => exact ⟨Nat.zero_le _, Nat.zero_le _⟩
    | some net =>
      have h1 := pairsF_len _ _ _ h
      have := finR_len s net kinds (w3.map st48)
      rw [List.length_map, h1, List.length_replicate] at this
      exact this
theorem impl_core (s w0 w1 w3 : List UInt8) (b : UInt8) (h1 : w1.length ≤ 1048576) (h3 : w3.length ≤ 1048576) (n : Nat) (hn : n ≤ 6) :
    Ev (fun k => impl_ReadPlace.j1 k (mk s) [mk w0, mk w1, mk [b], mk w3] (n : Int) false) (outR s w1 w3 n (st48 b)) := by
  have sts : ∀ net, Ev (fun k => impl_ReadPlace.j3 k (mk s) [mk w0, mk w1, mk [b], mk w3] net (st48 b)) (finR s net (st48 b) (w3.map st48)) := by
    intro net
    have h := impl_sts s w0 w1 [b] w3 h3 net (st48 b) w3.length 0 [] (by omega) rfl
    rw [List.nil_append, List.drop_zero] at h
    refine ev_eq _ (fun k => ?_) h
    simp only [impl_ReadPlace.j3]
    rw [qlen, if_pos (by decide), q3]
    rfl
  have eb : wrap64 (wrap64 (bt (mk [b]) 0) - 48) = st48 b := w48 b
  have p0 : (0 : Int) ≤ (n : Int) := by omega
  have p1 : ((n : Int)).toNat ≤ 35184372088832 := by omega
  unfold outR
  by_cases hw : w1 = [46]
  · subst hw
    rw [if_pos rfl]
    refine ev_eq _ (fun k => ?_) (sts (List.replicate n 0))
    simp only [impl_ReadPlace.j1]
    rw [if_neg (by decide), if_pos p0, if_pos p1, Option.bind_some, qlen, if_pos (by decide), q2, if_pos (by rw [mk_size, List.length_singleton]; decide), if_pos (by decide), q1, if_pos (by rw [mk_toList]), eb, Int.toNat_natCast]
  · rw [if_neg hw]
    have hp := splitL_len_le 44 w1
    have hpairs := impl_pairs s w0 w1 [b] w3 (st48 b) (splitL 44 w1) (by omega) (outP s w3 (st48 b) (pairsF (splitL 44 w1) (List.replicate n 0))) (splitL 44 w1).length 0 (List.replicate n 0) (by omega) (by rw [List.length_replicate]; exact hn) (fun h => by rw [List.drop_zero] at h; rw [h]; rfl) (fun net' h => by rw [List.drop_zero] at h; rw [h]; exact sts net')
    rw [List.length_replicate] at hpairs
    refine ev_eq ?f2 (fun k => ?h2) ?g2
    case h2 =>
      simp only [impl_ReadPlace.j1]
      rw [if_neg (by decide), if_pos p0, if_pos p1, Option.bind_some, qlen, if_pos (by decide), q2, if_pos (by rw [mk_size, List.length_singleton]; decide), if_pos (by decide), q1, if_neg (by rw [mk_toList]; exact hw), eb, Int.toNat_natCast]
    case g2 =>
      exact Ev.bind (split_ev w1 h1 44) hpairs
theorem four_of {α : Type} {l : List α} (h : l.length = 4) : ∃ a b c d, l = [a, b, c, d] := by
  match l, h with
  | [a, b, c, d], _ => exact ⟨a, b, c, d, rfl⟩
theorem one_of {α : Type} {l : List α} (h : l.length = 1) : ∃ a, l = [a] := by
  match l, h with
  | [a], _ => exact ⟨a, rfl⟩
theorem impl_j0_true (x : ByteArray) (t : List ByteArray) : Ev (fun k => impl_ReadPlace.j0 k x t true) zeroR := by
  refine ev_ret (fun k => ?_)
  simp only [impl_ReadPlace.j0]
  rw [if_pos trivial]
  rfl
theorem impl_j1_true (x : ByteArray) (t : List ByteArray) (n : Int) : Ev (fun k => impl_ReadPlace.j1 k x t n true) zeroR := by
  refine ev_ret (fun k => ?_)
  simp only [impl_ReadPlace.j1]
  rw [if_pos trivial]
  rfl
/-- The first word is a number from 1 to 6. -/
theorem impl_j0_ev (s w0 w1 w2 w3 : List UInt8) (b : UInt8) (h0 : w0 = [b]) (r : RP) (hg : 49 ≤ b.toNat ∧ b.toNat ≤ 54 → Ev (fun k => impl_ReadPlace.j1 k (mk s) [mk w0, mk w1, mk w2, mk w3] (st48 b) false) r) (hb : ¬ (49 ≤ b.toNat ∧ b.toNat ≤ 54) → r = zeroR) :
    Ev (fun k => impl_ReadPlace.j0 k (mk s) [mk w0, mk w1, mk w2, mk w3] false) r := by
  have eb : wrap64 (wrap64 (bt (mk w0) 0) - 48) = st48 b := by rw [h0]; exact w48 b
  have p0 : (0 : Int) < ((mk w0).size : Int) := by rw [h0, mk_size, List.length_singleton]; decide
  by_cases h1 : st48 b < 1
  · rw [hb (by unfold st48 at h1; omega)]
    refine ev_eq _ (fun k => ?_) (impl_j1_true (mk s) [mk w0, mk w1, mk w2, mk w3] (st48 b))
    simp only [impl_ReadPlace.j0]
    rw [if_neg (by decide), qlen, if_pos (by decide), q0, if_pos p0, eb, if_pos h1]
  · by_cases h6 : st48 b > 6
    · rw [hb (by unfold st48 at h6; omega)]
      refine ev_eq _ (fun k => ?_) (impl_j1_true (mk s) [mk w0, mk w1, mk w2, mk w3] (st48 b))
      simp only [impl_ReadPlace.j0]
      rw [if_neg (by decide), qlen, if_pos (by decide), q0, if_pos p0, eb, if_neg h1, decide_eq_true h6]
    · refine ev_eq _ (fun k => ?_) (hg (by unfold st48 at h1 h6; omega))
      simp only [impl_ReadPlace.j0]
      rw [if_neg (by decide), qlen, if_pos (by decide), q0, if_pos p0, eb, if_neg h1, decide_eq_false h6]
end Go.Proofs.YtkfnehgmgebcbaaDoor.PFnPlaceTextPure
