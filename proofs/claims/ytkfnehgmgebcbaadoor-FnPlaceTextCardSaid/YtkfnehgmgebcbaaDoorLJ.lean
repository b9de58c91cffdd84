import Derived.Test.YtkfnehgmgebcbaaDoorLI
namespace Go.Proofs.YtkfnehgmgebcbaaDoor.PFnPlaceTextPure
open Go.RowKit Go.Proofs.YtkfnehgmgebcbaaDoor.PFnPlaceText Go.Proofs.YtkfnehgmgebcbaaDoorW.PrintWords Go.Proofs.YtkfnehgmgebcbaaDoorW.PrintLast Go.Proofs.YtkfnehgmgebcbaaDoorW.PrintMore Go.Proofs.YtkfnehgmgebcbaaDoor.PFnPlaceTextPure
set_option linter.unusedVariables false
theorem splitL_none (c : UInt8) : ∀ l : List UInt8, c ∉ l → splitL c l = [l] := by
  intro l
  induction l with
  | nil => intro _; rfl
  | cons x l ih =>
    intro h
    rw [splitL, if_neg (fun e => h (by rw [e]; exact List.mem_cons_self)), ih (fun m => h (List.mem_cons_of_mem _ m))]
theorem splitL_app (c : UInt8) (b : List UInt8) : ∀ a : List UInt8, c ∉ a → splitL c (a ++ c :: b) = a :: splitL c b := by
  intro a
  induction a with
  | nil => intro _; rw [List.nil_append, splitL, if_pos rfl]
  | cons x a ih =>
    intro h
    rw [List.cons_append, splitL, if_neg (fun e => h (by rw [e]; exact List.mem_cons_self)), ih (fun m => h (List.mem_cons_of_mem _ m))]
theorem splitL_join (c : UInt8) : ∀ ws : List (List UInt8), ws ≠ [] → (∀ p ∈ ws, c ∉ p) → splitL c (Lib.join ws [c]) = ws := by
  intro ws
  induction ws with
  | nil => intro h _; exact absurd rfl h
  | cons x r ih =>
    intro _ h
    have hx := h x List.mem_cons_self
    cases r with
    | nil => rw [Lib.join_one]; exact splitL_none c x hx
    | cons y r =>
      have e : Lib.join (x :: y :: r) [c] = x ++ c :: Lib.join (y :: r) [c] := by
        rw [Lib.join_cons, Lib.join_cons]
        simp [Lib.joinTail]
      rw [e, splitL_app c _ x hx, ih (by simp) (fun p hp => h p (List.mem_cons_of_mem _ hp))]
theorem dg_ne_dec : ∀ i : Fin 10, dg (i.val : Int) ≠ 32 ∧ dg (i.val : Int) ≠ 44 ∧ 48 ≤ (dg (i.val : Int)).toNat ∧ (dg (i.val : Int)).toNat ≤ 57 := by decide +kernel
theorem dg_ne (i : Nat) (h : i < 10) : dg (i : Int) ≠ 32 ∧ dg (i : Int) ≠ 44 := ⟨(dg_ne_dec ⟨i, h⟩).1, (dg_ne_dec ⟨i, h⟩).2.1⟩
theorem wires_no (net : List Int) (h6 : net.length ≤ 6) (c : UInt8) (hc : c = 32 ∨ c = 44) : ∀ p ∈ wires net, c ∉ p := by
  have row : ∀ (i : Nat), i < 6 → ∀ d j, j + d ≤ 6 → ∀ p ∈ rowW net i d j, c ∉ p := by
    intro i hi d
    induction d with
    | zero => intro j _ p hp; simp [rowW] at hp
    | succ d ih =>
      intro j hj p hp
      unfold rowW at hp
      split at hp
      · exact ih (j + 1) (by omega) p hp
      · rcases List.mem_cons.1 hp with rfl | hp
        · have h1 := dg_ne i (by omega)
          have h2 := dg_ne j (by omega)
          intro hm
          rcases hc with rfl | rfl
          · rcases List.mem_cons.1 hm with e | hm
            · exact h1.1 e.symm
            · exact h2.1 (List.mem_singleton.1 hm).symm
          · rcases List.mem_cons.1 hm with e | hm
            · exact h1.2 e.symm
            · exact h2.2 (List.mem_singleton.1 hm).symm
        · exact ih (j + 1) (by omega) p hp
  have all : ∀ d i, i + d = net.length → ∀ p ∈ allW net d i, c ∉ p := by
    intro d
    induction d with
    | zero => intro i _ p hp; simp [allW] at hp
    | succ d ih =>
      intro i hi p hp
      rw [allW] at hp
      rcases List.mem_append.1 hp with hp | hp
      · exact row i (by omega) _ _ (by omega) p hp
      · exact ih (i + 1) (by omega) p hp
  exact all net.length 0 (by omega)
theorem join_no (c : UInt8) (hc : c ≠ 44) : ∀ ws : List (List UInt8), (∀ p ∈ ws, c ∉ p) → c ∉ Lib.join ws [44] := by
  intro ws h
  cases ws with
  | nil => simp [Lib.join_nil]
  | cons x r =>
    rw [Lib.join_cons]
    intro hm
    rcases List.mem_append.1 hm with hm | hm
    · exact h x List.mem_cons_self hm
    · have : ∀ r : List (List UInt8), (∀ p ∈ r, c ∉ p) → c ∉ Lib.joinTail [44] r := by
        intro r
        induction r with
        | nil => intro _ hm; simp [Lib.joinTail] at hm
        | cons y r ih =>
          intro hr hm
          have ih' := ih (fun p hp => hr p (List.mem_cons_of_mem _ hp))
          have hy := hr y List.mem_cons_self
          simp only [Lib.joinTail, List.map_cons, List.flatten_cons, List.mem_append, List.mem_cons, List.mem_nil_iff, or_false] at hm ih'
          rcases hm with (e | e) | e
          · exact hc e
          · exact hy e
          · exact ih' e
      exact this r (fun p hp => h p (List.mem_cons_of_mem _ hp)) hm
def midW (net : List Int) : List UInt8 := if wires net = [] then [46] else joinW (wires net)
theorem mid_no (net : List Int) (h6 : net.length ≤ 6) : (32 : UInt8) ∉ midW net := by
  unfold midW
  split
  · decide
  · exact join_no 32 (by decide) _ (wires_no net h6 32 (.inl rfl))
theorem st_dg {kinds : Int} {st : List Int} (hk : kinds ≤ 10) (h : ∀ i : Nat, i < st.length → 0 ≤ rd st i ∧ rd st i < kinds) : (st.map dg).map st48 = st := by
  rw [List.map_map]
  conv => rhs; rw [← List.map_id st]
  apply List.map_congr_left
  intro x hx
  obtain ⟨i, hi, e⟩ := List.mem_iff_getElem.1 hx
  have := h i hi
  rw [rd_nat, List.getD_eq_getElem?_getD, List.getElem?_eq_getElem hi] at this
  simp only [Option.getD_some] at this
  rw [e] at this
  obtain ⟨m, rfl⟩ := Int.eq_ofNat_of_zero_le this.1
  exact st48_dg m (by omega)
theorem body_split {net : List Int} {kinds : Int} {st : List Int} (h : askB net kinds st = true) : splitL 32 (body net kinds st) = [[dg net.length], midW net, [dg kinds], st.map dg] := by
  obtain ⟨f1, f2, f3, f4, f5, f6, f7⟩ := ask_facts h
  have e : body net kinds st = [dg net.length] ++ 32 :: (midW net ++ 32 :: ([dg kinds] ++ 32 :: st.map dg)) := by
    unfold body midW
    simp
  obtain ⟨k, rfl⟩ := Int.eq_ofNat_of_zero_le (show 0 ≤ kinds by omega)
  rw [e, splitL_app 32 _ _ (by
      intro hm
      exact (dg_ne net.length (by omega)).1 (List.mem_singleton.1 hm).symm), splitL_app 32 _ _ (mid_no net (by omega)), splitL_app 32 _ _ (by
      intro hm
      exact (dg_ne k (by omega)).1 (List.mem_singleton.1 hm).symm), splitL_none 32 _ (by
      intro hm
      obtain ⟨x, hx, ex⟩ := List.mem_map.1 hm
      obtain ⟨i, hi, e2⟩ := List.mem_iff_getElem.1 hx
      have := f6 i hi
      rw [rd_nat, List.getD_eq_getElem?_getD, List.getElem?_eq_getElem hi] at this
      simp only [Option.getD_some] at this
      rw [e2] at this
      obtain ⟨m, rfl⟩ := Int.eq_ofNat_of_zero_le this.1
      exact (dg_ne m (by omega)).1 ex)]
theorem body_len {net : List Int} {kinds : Int} {st : List Int} (h : askB net kinds st = true) : (body net kinds st).length ≤ 200 ∧ (midW net).length ≤ 108 := by
  obtain ⟨f1, f2, f3, f4, f5, f6, f7⟩ := ask_facts h
  obtain ⟨w1, w2, w3⟩ := wires_facts net (by omega)
  have : (midW net).length ≤ 108 := by
    unfold midW
    split
    · decide
    · exact w3
  refine ⟨?_, this⟩
  unfold body
  unfold midW at this
  simp only [List.length_append, List.length_cons, List.length_nil, List.length_map]
  omega
theorem outR_text {net : List Int} {kinds : Int} {st : List Int} (h : askB net kinds st = true) : outR (body net kinds st) (midW net) (st.map dg) net.length kinds = (net, kinds, st, true) := by
  obtain ⟨f1, f2, f3, f4, f5, f6, f7⟩ := ask_facts h
  have hn : NetB net := netB_of (by simp only [askB, Bool.and_eq_true] at h; exact h.1)
  have hp := pairs_net hn
  have ef : finR (body net kinds st) net kinds ((st.map dg).map st48) = (net, kinds, st, true) := by
    unfold finR
    rw [st_dg (by omega) f6, if_pos (by unfold textL; rw [if_pos h])]
  unfold outR midW
  obtain ⟨w1, w2, w3⟩ := wires_facts net (by omega)
  by_cases hw : wires net = []
  · rw [if_pos hw, if_pos rfl]
    rw [hw] at hp
    injection hp with hp
    rw [hp]
    exact ef
  · rw [if_neg hw, if_neg (by
      intro e
      have := congrArg (splitL 44) e
      unfold joinW at this
      rw [splitL_join 44 _ hw (wires_no net (by omega) 44 (.inr rfl))] at this
      have e2 : splitL 44 [46] = [[46]] := by decide
      rw [e2] at this
      have := w1 [46] (by rw [this]; exact List.mem_singleton.2 rfl)
      exact absurd this (by decide))]
    unfold joinW
    rw [splitL_join 44 _ hw (wires_no net (by omega) 44 (.inr rfl)), hp]
    exact ef
theorem impl_read_text {net : List Int} {kinds : Int} {st : List Int} (h : askB net kinds st = true) : Ev (fun k => impl_ReadPlace.f k (mk (textL net kinds st))) (net, kinds, st, true) := by
  obtain ⟨f1, f2, f3, f4, f5, f6, f7⟩ := ask_facts h
  have hb := body_len h
  have et : textL net kinds st = body net kinds st := by unfold textL; rw [if_pos h]
  rw [et]
  unfold impl_ReadPlace.f
  have spl := split_ev (body net kinds st) (by omega) 32
  rw [body_split h] at spl
  have spl' : Ev (fun k => strings_Split.f k (mk (body net kinds st)) (⟨#[32]⟩ : ByteArray)) [mk [dg net.length], mk (midW net), mk [dg kinds], mk (st.map dg)] := spl
  obtain ⟨k, rfl⟩ := Int.eq_ofNat_of_zero_le (show 0 ≤ kinds by omega)
  have I := impl_core (body net (k : Int) st) [dg net.length] (midW net) (st.map dg) (dg (k : Int)) (by omega) (by rw [List.length_map]; omega) net.length (by omega)
  rw [st48_dg k (by omega), outR_text h] at I
  have hd := dg_ne_dec ⟨net.length, by omega⟩
  have hst := st48_dg net.length (by omega)
  refine Ev.bind spl' (Ev.congr (fun k => if_pos (by rw [qlen])) (Ev.congr (fun k => if_pos (by rw [qlen]; decide)) (Ev.congr (fun k => if_pos (by rw [q0, mk_size]; rfl)) (Ev.congr (fun k => if_pos (by rw [qlen]; decide)) ?_))))
  have fl : (((rdOf ByteArray.empty [mk [dg net.length], mk (midW net), mk [dg (k : Int)], mk (st.map dg)] 2).size : Int) != 1) = false := by rw [q2, mk_size]; rfl
  rw [fl]
  refine impl_j0_ev (body net (k : Int) st) [dg net.length] (midW net) [dg (k : Int)] (st.map dg) (dg net.length) rfl _ (fun _ => ?_) (fun hno => ?_)
  · rw [hst]
    exact I
  · exfalso
    apply hno
    unfold st48 at hst
    omega
end Go.Proofs.YtkfnehgmgebcbaaDoor.PFnPlaceTextPure
