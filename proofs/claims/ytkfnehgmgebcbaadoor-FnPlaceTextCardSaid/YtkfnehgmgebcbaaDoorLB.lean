import Derived.Test.YtkfnehgmgebcbaaDoorLA
import Derived.Lib.Bytes
import Derived.Lib.Strings
namespace Go.Proofs.YtkfnehgmgebcbaaDoor.PFnPlaceTextPure
open Go.RowKit Go.Proofs.YtkfnehgmgebcbaaDoor.PFnPlaceText Go.Proofs.YtkfnehgmgebcbaaDoorW.PrintWords Go.Proofs.YtkfnehgmgebcbaaDoorW.PrintLast Go.Proofs.YtkfnehgmgebcbaaDoorW.PrintMore Go.Proofs.YtkfnehgmgebcbaaDoor.PFnPlaceTextPure
set_option linter.unusedVariables false
theorem idx_split (c : UInt8) : ∀ l : List UInt8, (Lib.indexByte l c < 0 → splitL c l = [l] ∧ l.count c = 0) ∧
    (0 ≤ Lib.indexByte l c → ∃ m : Nat, Lib.indexByte l c = m ∧ m < l.length ∧ splitL c l = l.take m :: splitL c (l.drop (m + 1)) ∧ l.count c = (l.drop (m + 1)).count c + 1) := by
  intro l
  induction l with
  | nil => exact ⟨fun _ => ⟨rfl, rfl⟩, fun h => by simp [Lib.indexByte] at h⟩
  | cons x l ih =>
    by_cases hx : x = c
    · subst hx
      have e : Lib.indexByte (x :: l) x = 0 := by simp [Lib.indexByte]
      rw [e]
      refine ⟨fun h => absurd h (by decide), fun _ => ⟨0, rfl, by simp, ?_, by simp⟩⟩
      rw [splitL, if_pos rfl]
      rfl
    · have hb : (x == c) = false := beq_eq_false_iff_ne.2 hx
      have hc : List.count c (x :: l) = l.count c := List.count_cons_of_ne hx
      by_cases hn : Lib.indexByte l c = -1
      · have e : Lib.indexByte (x :: l) c = -1 := by
          rw [Lib.indexByte, hb, hn]; rfl
        rw [e, hc]
        obtain ⟨h1, h2⟩ := ih.1 (by rw [hn]; decide)
        refine ⟨fun _ => ⟨?_, h2⟩, fun h => absurd h (by decide)⟩
        rw [splitL, if_neg hx, h1]
      · have hge := Lib.indexByte_ge l c
        have e : Lib.indexByte (x :: l) c = Lib.indexByte l c + 1 := by
          have : (Lib.indexByte l c == -1) = false := beq_eq_false_iff_ne.2 hn
          rw [Lib.indexByte, hb, this]; rfl
        obtain ⟨m, h1, h2, h3, h4⟩ := ih.2 (by omega)
        refine ⟨fun h => by omega, fun _ => ⟨m + 1, by rw [e, h1]; rfl, by simp; omega, ?_, by rw [hc, h4]; rfl⟩⟩
        rw [splitL, if_neg hx, h3]
        rfl
theorem one_size (c : UInt8) : (mk [c]).size = 1 := rfl
theorem index_at (l : List UInt8) (c : UInt8) : strings_Index.f (mk l) (mk [c]) = some (Lib.indexByte l c) := by
  unfold strings_Index.f YtkfnehgmgebcbaaDoorLibS.indexF
  rw [if_pos (one_size c), mk_list]
  rfl
theorem mn_le {a b : Int} (h : a ≤ b) : mn a b = a := by unfold mn; omega
theorem stepW0 (m : Nat) (h : m < 1048576) : wrap64 ((m : Int) + 1) = ((m + 1 : Nat) : Int) := (w64 (by omega) (by omega)).trans (by omega)
theorem stepW (m : Nat) (c : UInt8) (h : m < 1048576) : wrap64 ((m : Int) + ((mk [c]).size : Int)) = ((m + 1 : Nat) : Int) := by
  have h1 : ((mk [c]).size : Int) = 1 := congrArg Nat.cast (one_size c)
  rw [h1]
  exact stepW0 m h
theorem gen_l0 (c : UInt8) (N : Nat) (hN : N ≤ 1048576) : ∀ (d i : Nat) (rest : List UInt8) (arr : List ByteArray) (done : List (List UInt8)), i + d = N → rest.length ≤ 1048576 → rest.count c = d → arr.length = N + 1 → done.length = i → arr.take i = done.map mk →
    Ev (fun k => strings_genSplit.l0 k (mk rest) (mk [c]) 0 (N : Int) arr (i : Int)) ((done ++ splitL c rest).map mk) := by
  intro d
  induction d with
  | zero =>
    intro i rest arr done hi hr hc ha hd ht
    have hsp : splitL c rest = [rest] := by
      by_cases hneg : Lib.indexByte rest c < 0
      · exact ((idx_split c rest).1 hneg).1
      · obtain ⟨m, _, _, _, h4⟩ := (idx_split c rest).2 (by omega)
        omega
    have e1 : wrap64 ((i : Int) + 1) = (i : Int) + 1 := w64 (by omega) (by omega)
    refine ev_ret (fun k => ?_)
    simp only [strings_genSplit.l0]
    rw [if_neg (by omega), if_pos (by omega), if_pos (by omega), e1, if_pos (by omega), if_pos (by omega), hsp, List.map_append]
    have e2 : ((i : Int) + 1).toNat = i + 1 := by omega
    rw [e2, Int.toNat_natCast, List.take_set, ← ht]
    have e3 : (arr.take (i + 1)).set i (mk rest) = arr.take i ++ [mk rest] := by
      rw [List.take_succ_eq_append_getElem (by omega), List.set_append_right _ _ (by rw [List.length_take]; omega)]
      rw [List.length_take, Nat.min_eq_left (by omega), Nat.sub_self]
      rfl
    rw [e3]
    rfl
  | succ d ih =>
    intro i rest arr done hi hr hc ha hd ht
    have hpos : 0 ≤ Lib.indexByte rest c := by
      by_cases hneg : Lib.indexByte rest c < 0
      · have := ((idx_split c rest).1 hneg).2
        omega
      · omega
    obtain ⟨m, hm, hml, hsp, hcn⟩ := (idx_split c rest).2 hpos
    have next := ih (i + 1) (rest.drop (m + 1)) (arr.set i (mk (rest.take m))) (done ++ [rest.take m]) (by omega) (by rw [List.length_drop]; omega) (by omega) (by rw [List.length_set]; exact ha) (by simp [hd]) (by
      rw [List.take_set, List.take_succ_eq_append_getElem (by omega), List.set_append_right _ _ (by rw [List.length_take]; omega), List.length_take, Nat.min_eq_left (by omega), Nat.sub_self, ht]
      simp)
    rw [List.append_assoc, List.singleton_append, ← hsp] at next
    have p1 : (i : Int) < (N : Int) := by omega
    have p2 : ¬ (m : Int) < 0 := by omega
    have p3 : (0 : Int) ≤ (m : Int) := by omega
    have p4 : (m : Int) ≤ ((mk rest).size : Int) := by rw [mk_size]; omega
    have p5 : (0 : Int) ≤ (i : Int) := by omega
    have p6 : (i : Int) < (arr.length : Int) := by omega
    have p7 : (0 : Int) ≤ ((m + 1 : Nat) : Int) := by omega
    have p8 : ((m + 1 : Nat) : Int) ≤ ((mk rest).size : Int) := by rw [mk_size]; omega
    have e1 : wrap64 ((m : Int) + 0) = m := by rw [w64 (by omega) (by omega)]; omega
    have e2 : wrap64 ((m : Int) + ((mk [c]).size : Int)) = ((m + 1 : Nat) : Int) := stepW m c (Nat.lt_of_lt_of_le hml hr)
    have e3 : wrap64 ((i : Int) + 1) = ((i + 1 : Nat) : Int) := by rw [w64 (by omega) (by omega)]; omega
    have e4 : (mk rest).extract (m + 1) (mk rest).size = mk (rest.drop (m + 1)) := by
      rw [ext_mk, mk_size, mk_list, List.take_of_length_le (by rw [List.length_drop]; omega)]
    have e5 : (mk rest).extract 0 m = mk (rest.take m) := by rw [ext_mk, mk_list, List.drop_zero, Nat.sub_zero]
    refine ev_eq _ (fun k => ?_) next
    simp only [strings_genSplit.l0]
    rw [if_pos p1, index_at, Option.bind_some, hm, if_neg p2, e1, if_pos p3, if_pos p4, if_pos p5, if_pos p6, e2, if_pos p7, if_pos p8, e3, Int.toNat_natCast, Int.toNat_natCast, Int.toNat_natCast, e4, e5]
theorem split_ev (l : List UInt8) (hl : l.length ≤ 1048576) (c : UInt8) : Ev (fun k => strings_Split.f k (mk l) (mk [c])) ((splitL c l).map mk) := by
  unfold strings_Split.f
  refine Ev.bind ?_ (Ev.now _)
  unfold strings_genSplit.f
  have hcnt : strings_Count.f (mk l) (mk [c]) = some ((l.count c : Nat) : Int) := by
    unfold strings_Count.f YtkfnehgmgebcbaaDoorLibS.countF
    rw [if_pos (one_size c), mk_list]
    rfl
  have hle : l.count c ≤ l.length := List.count_le_length
  have e1 : wrap64 (((l.count c : Nat) : Int) + 1) = ((l.count c : Nat) : Int) + 1 := w64 (by omega) (by omega)
  have e2 : wrap64 (((mk l).size : Int) + 1) = (l.length : Int) + 1 := by rw [mk_size, w64 (by omega) (by omega)]
  have e3 : wrap64 (((l.count c : Nat) : Int) + 1 - 1) = ((l.count c : Nat) : Int) := by rw [w64 (by omega) (by omega)]; omega
  have h := gen_l0 c (l.count c) (by omega) (l.count c) 0 l (List.replicate (l.count c + 1) (⟨#[]⟩ : ByteArray)) [] (by omega) hl rfl (by simp) rfl (by simp)
  refine Ev.congr (fun k => ?_) (ev_eq (g := fun k => strings_genSplit.j0 k (mk l) (mk [c]) 0 (((l.count c : Nat) : Int) + 1)) _ (fun k => ?_) h)
  · rw [if_neg (by decide), if_neg (by rw [Lib.toList_data]; simp [mk]), if_pos (by decide), hcnt, Option.bind_some, e1]
  · simp only [strings_genSplit.j0]
    rw [e2, mn_le (by omega), if_pos (by omega), if_pos (by omega), e3]
    rfl
end Go.Proofs.YtkfnehgmgebcbaaDoor.PFnPlaceTextPure
