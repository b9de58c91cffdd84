import Derived.Test.YtnhgiincboocaaaDoorUI
namespace Go.Proofs.YtnhgiincboocaaaDoor.PFnExactStoreOkPure
open Go.RowKit Go.Proofs.YtnhgiincboocaaaDoor.PFnExactStoreOk Go.Proofs.YtnhgiincboocaaaDoorW.PrintWords Go.Proofs.YtnhgiincboocaaaDoorW.PrintLast Go.Proofs.YtnhgiincboocaaaDoorW.PrintMore Go.Proofs.YtnhgiincboocaaaDoor.PFnExactStoreOkPure
set_option linter.unusedVariables false
theorem splitL_mem (c : UInt8) : ∀ (l p : List UInt8), p ∈ splitL c l → p.length ≤ l.length := by
  intro l
  induction l with
  | nil => intro p hp; rw [splitL] at hp; rw [List.mem_singleton.1 hp]; exact Nat.le_refl _
  | cons x l ih =>
    intro p hp
    rw [splitL] at hp
    split at hp
    · rcases List.mem_cons.1 hp with rfl | hp
      · simp
      · have := ih p hp; rw [List.length_cons]; omega
    · split at hp <;> rename_i h t
      · rw [List.mem_singleton.1 hp]; simp
      · rcases List.mem_cons.1 hp with rfl | hp
        · have := ih _ (by rw [t]; exact List.mem_cons_self)
          rw [List.length_cons, List.length_cons]; omega
        · have := ih p (by rw [t]; exact List.mem_cons_of_mem _ hp); rw [List.length_cons]; omega
theorem finR_bad (s : List UInt8) (hs : s ≠ []) (net : List Int) (kinds : Int) (st : List Int) (hk : ¬ (3 ≤ kinds ∧ kinds ≤ 5)) : finR s net kinds st = zeroR := by
  unfold finR
  have : textL net kinds st = [] := by
    unfold textL
    rw [if_neg]
    intro h
    have := ask_facts h
    omega
  rw [if_neg (by rw [this]; exact fun h => hs h.symm)]
theorem finR_len (s : List UInt8) (net : List Int) (kinds : Int) (st : List Int) : (finR s net kinds st).1.length ≤ net.length ∧ (finR s net kinds st).2.2.1.length ≤ st.length := by
  unfold finR
  split
  · exact ⟨Nat.le_refl _, Nat.le_refl _⟩
  · exact ⟨Nat.zero_le _, Nat.zero_le _⟩
def outP (s w3 : List UInt8) (kinds : Int) : Option (List Int) → RP
  | none => zeroR
  | some net => finR s net kinds (w3.map st48)
def outR (s w1 w3 : List UInt8) (n : Nat) (kinds : Int) : RP := if w1 = [46] then finR s (List.replicate n 0) kinds (w3.map st48) else outP s w3 kinds (pairsF (splitL 44 w1) (List.replicate n 0))
theorem outR_bad (s w1 w3 : List UInt8) (hs : s ≠ []) (n : Nat) (kinds : Int) (hk : ¬ (3 ≤ kinds ∧ kinds ≤ 5)) : outR s w1 w3 n kinds = zeroR := by
  unfold outR
  split
  · exact finR_bad s hs _ _ _ hk
  · cases pairsF (splitL 44 w1) (List.replicate n 0) with
    | none => rfl
    | some net => exact finR_bad s hs _ _ _ hk
theorem outR_len (s w1 w3 : List UInt8) (n : Nat) (kinds : Int) : (outR s w1 w3 n kinds).1.length ≤ n ∧ (outR s w1 w3 n kinds).2.2.1.length ≤ w3.length := by
  unfold outR
  split
  · have := finR_len s (List.replicate n 0) kinds (w3.map st48)
    rw [List.length_replicate, List.length_map] at this
    exact this
  · cases h : pairsF (splitL 44 w1) (List.replicate n 0) with
    | none => exact ⟨Nat.zero_le _, Nat.zero_le _⟩
    | some net =>
      have h1 := pairsF_len _ _ _ h
      have := finR_len s net kinds (w3.map st48)
      rw [List.length_map, h1, List.length_replicate] at this
      exact this
theorem spec_core (s w0 w1 w2 w3 : List UInt8) (h1 : w1.length ≤ 1048576) (h3 : w3.length ≤ 1048576) (n : Nat) (hn : n ≤ 6) (kinds : Int) (hd0 : Ev (fun k => spec_l1Digits.f k (mk w0)) (n : Int)) (hd2 : Ev (fun k => spec_l1Digits.f k (mk w2)) kinds) :
    Ev (fun k => spec_ReadPlace.j0 k (mk s) [mk w0, mk w1, mk w2, mk w3] false) (outR s w1 w3 n kinds) := by
  refine ev_eq ?f1 (fun k => ?h1) ?g1
  case h1 =>
    simp only [spec_ReadPlace.j0, q0, q1, q2, qlen]
    rw [if_neg (by decide), if_pos (by decide)]
  case g1 =>
    refine Ev.bind hd0 (Ev.congr (fun k => if_pos (by omega)) (Ev.congr (fun k => if_pos (by omega)) (Ev.congr (fun k => if_pos (by decide)) (Ev.bind hd2 (Ev.congr (fun k => if_pos (by decide)) (Ev.bind (cut_ev (mk w1) (by rw [mk_size]; exact h1) 44) ?_))))))
    rw [mk_list, Int.toNat_natCast]
    have sts : ∀ net, Ev (fun k => spec_ReadPlace.l1 k (mk s) [mk w0, mk w1, mk w2, mk w3] 0 net kinds []) (finR s net kinds (w3.map st48)) := by
      intro net
      have h := spec_sts s w0 w1 w2 w3 h3 net kinds w3.length 0 [] (by omega) rfl
      rw [List.nil_append, List.drop_zero] at h
      exact h
    unfold outR
    by_cases hw : w1 = [46]
    · subst hw
      rw [if_pos rfl]
      have es : splitL 44 [46] = [[46]] := by decide
      rw [es]
      refine ev_eq (fun k => spec_ReadPlace.j2 k (mk s) [mk w0, mk [46], mk w2, mk w3] ([[46]].map mk) 0 false (List.replicate n 0) kinds) (fun k => ?_) (ev_eq _ (fun k => ?_) (sts _))
      · simp only [spec_ReadPlace.l0]
        rw [if_pos (by decide), qlen, if_pos (by decide), q1]
        have : ((mk [46]).toList != ([46] : List UInt8)) = false := by rw [mk_toList]; rfl
        rw [this]
      · simp only [spec_ReadPlace.j2]
        rw [if_neg (by decide)]
    · rw [if_neg hw]
      have hp := splitL_len_le 44 w1
      refine spec_pairs s w0 w1 w2 w3 hw kinds (splitL 44 w1) (by omega) _ (splitL 44 w1).length 0 (List.replicate n 0) (by omega) (by rw [List.length_replicate]; exact hn) (fun h => ?_) (fun net' h => ?_)
      · rw [List.drop_zero] at h; rw [h]; rfl
      · rw [List.drop_zero] at h; rw [h]; exact sts net'
theorem impl_core (s w0 w1 w3 : List UInt8) (b : UInt8) (h1 : w1.length ≤ 1048576) (h3 : w3.length ≤ 1048576) (n : Nat) (hn : n ≤ 6) :
    Ev (fun k => impl_ReadPlace.j1 k (mk s) [mk w0, mk w1, mk [b], mk w3] (n : Int) false) (outR s w1 w3 n (st48 b)) := by
  have sts : ∀ net, Ev (fun k => impl_ReadPlace.j3 k (mk s) [mk w0, mk w1, mk [b], mk w3] net (st48 b)) (finR s net (st48 b) (w3.map st48)) := by
    intro net
    have h := impl_sts s w0 w1 [b] w3 h3 net (st48 b) w3.length 0 [] (by omega) rfl
    rw [List.nil_append, List.drop_zero] at h
    refine ev_eq _ (fun k => ?_) h
    simp only [impl_ReadPlace.j3]
    rw [qlen, if_pos (by decide), q3]
    rfl
  have eb : wrap64 (wrap64 (bt (mk [b]) 0) - 48) = st48 b := w48 b
  have p0 : (0 : Int) ≤ (n : Int) := by omega
  have p1 : ((n : Int)).toNat ≤ 35184372088832 := by omega
  unfold outR
  by_cases hw : w1 = [46]
  · subst hw
    rw [if_pos rfl]
    refine ev_eq _ (fun k => ?_) (sts (List.replicate n 0))
    simp only [impl_ReadPlace.j1]
    rw [if_neg (by decide), if_pos p0, if_pos p1, Option.bind_some, qlen, if_pos (by decide), q2, if_pos (by rw [mk_size, List.length_singleton]; decide), if_pos (by decide), q1, if_pos (by rw [mk_toList]), eb, Int.toNat_natCast]
  · rw [if_neg hw]
    have hp := splitL_len_le 44 w1
    have hpairs := impl_pairs s w0 w1 [b] w3 (st48 b) (splitL 44 w1) (by omega) (outP s w3 (st48 b) (pairsF (splitL 44 w1) (List.replicate n 0))) (splitL 44 w1).length 0 (List.replicate n 0) (by omega) (by rw [List.length_replicate]; exact hn) (fun h => by rw [List.drop_zero] at h; rw [h]; rfl) (fun net' h => by rw [List.drop_zero] at h; rw [h]; exact sts net')
    rw [List.length_replicate] at hpairs
    refine ev_eq ?f2 (fun k => ?h2) ?g2
    case h2 =>
      simp only [impl_ReadPlace.j1]
      rw [if_neg (by decide), if_pos p0, if_pos p1, Option.bind_some, qlen, if_pos (by decide), q2, if_pos (by rw [mk_size, List.length_singleton]; decide), if_pos (by decide), q1, if_neg (by rw [mk_toList]; exact hw), eb, Int.toNat_natCast]
    case g2 =>
      exact Ev.bind (split_ev w1 h1 44) hpairs
end Go.Proofs.YtnhgiincboocaaaDoor.PFnExactStoreOkPure
