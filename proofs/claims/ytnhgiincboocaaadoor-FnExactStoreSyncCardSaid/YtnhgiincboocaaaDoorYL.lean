import Derived.Test.YtnhgiincboocaaaDoorYK
namespace Go.Proofs.YtnhgiincboocaaaDoor.PFnExactStoreSyncPure
open Go.RowKit Go.Proofs.YtnhgiincboocaaaDoor.PFnExactStoreSync Go.Proofs.YtnhgiincboocaaaDoorW.PrintWords Go.Proofs.YtnhgiincboocaaaDoorW.PrintLast Go.Proofs.YtnhgiincboocaaaDoorW.PrintMore Go.Proofs.YtnhgiincboocaaaDoor.PFnExactStoreSyncPure
set_option linter.unusedVariables false
theorem szS_ev {a b : ByteArray} (n : Int) (ha : a.size ≤ maxLen) (hb : b.size ≤ maxLen) : ∃ z, laws_szStore.f a b n 1048576 = some z ∧ (¬ z < 0 → a.size ≤ 1048576 ∧ b.size ≤ 1048576) := by
  unfold maxLen at ha hb
  unfold laws_szStore.f
  rw [w64 (x := 1048576 - (a.size : Int)) (by omega) (by omega)]
  by_cases h1 : (1048576 : Int) - a.size < 0
  · rw [if_pos h1]
    exact ⟨-1, rfl, fun h => absurd h (by decide)⟩
  · rw [if_neg h1, w64 (x := 1048576 - (a.size : Int) - b.size) (by omega) (by omega)]
    by_cases h2 : (1048576 : Int) - a.size - b.size < 0
    · rw [if_pos h2]
      exact ⟨-1, rfl, fun h => absurd h (by decide)⟩
    · rw [if_neg h2]
      exact ⟨_, rfl, fun _ => by omega⟩
theorem ok_ev (a b : ByteArray) (n : Int) (h : a.size ≤ 1048576) : ∃ r : Bool, Ev (fun k => spec_StoreOk.f k a b n) r ∧ Ev (fun k => impl_StoreOk.f k a b n) r ∧ (r = true → 0 ≤ n) := by
  obtain ⟨⟨x, q, y, ok⟩, S, I, _, _⟩ := read_ev a h
  unfold spec_StoreOk.f impl_StoreOk.f
  cases ok with
  | false => exact ⟨false, Ev.bind S (ev_const (fun k => if_neg Bool.false_ne_true)), Ev.bind I (ev_const (fun k => if_neg Bool.false_ne_true)), fun h => by cases h⟩
  | true =>
    by_cases hb : (b.size : Int) ≤ 1000
    · refine ⟨decide (0 ≤ n) && decide (n ≤ (b.size : Int)), Ev.bind S (Ev.congr (fun k => if_pos rfl) (Ev.congr (fun k => if_pos hb) (ev_const (fun k => by rw [l1In_eq]; rfl)))), Ev.bind I (Ev.congr (fun k => if_pos rfl) (Ev.congr (fun k => if_pos hb) (ev_const (fun k => ?_)))), fun h => by simp only [Bool.and_eq_true, decide_eq_true_eq] at h; exact h.1⟩
      by_cases hn : n ≥ 0
      · rw [if_pos hn, decide_eq_true (show (0 : Int) ≤ n from hn)]; rfl
      · rw [if_neg hn, decide_eq_false (show ¬ (0 : Int) ≤ n from hn)]; rfl
    · exact ⟨false, Ev.bind S (Ev.congr (fun k => if_pos rfl) (ev_const (fun k => if_neg hb))), Ev.bind I (Ev.congr (fun k => if_pos rfl) (ev_const (fun k => if_neg hb))), fun h => by cases h⟩
theorem eqStore_at (a b : ByteArray) (n : Int) : laws_eqStore.f a b n a b n = some true := by
  unfold laws_eqStore.f
  rw [if_pos rfl, if_pos rfl, if_pos rfl]
abbrev SR := ByteArray × ByteArray × Int × Bool
def zeroS : SR := (⟨#[]⟩, ⟨#[]⟩, 0, false)
theorem sync_ev (a b : ByteArray) (n : Int) (h : a.size ≤ 1048576) : ∃ r : SR, Ev (fun k => spec_StoreSync.f k a b n) r ∧ Ev (fun k => impl_StoreSync.f k a b n) r := by
  obtain ⟨v, S, I, _⟩ := ok_ev a b n h
  unfold spec_StoreSync.f impl_StoreSync.f
  cases v with
  | true => exact ⟨(a, b, (b.size : Int), true), Ev.bind S (ev_const (fun k => if_pos rfl)), Ev.bind I (ev_const (fun k => if_pos rfl))⟩
  | false => exact ⟨zeroS, Ev.bind S (ev_const (fun k => if_neg Bool.false_ne_true)), Ev.bind I (ev_const (fun k => if_neg Bool.false_ne_true))⟩
theorem law_ev (a b : ByteArray) (n : Int) (ha : a.size ≤ maxLen) (hb : b.size ≤ maxLen) : Ev (fun k => laws_FnExactStoreSync.f k a b n) true := by
  unfold laws_FnExactStoreSync.f
  obtain ⟨z, hz, hz2⟩ := szS_ev n ha hb
  rw [hz, show laws_toStore.f a b n = some (a, b, n) from rfl]
  refine Ev.congr (fun k => Option.bind_some _ _) ?_
  by_cases hneg : z < 0
  · exact ev_const (fun k => if_pos hneg)
  · refine Ev.congr (fun k => if_neg hneg) (Ev.congr (fun k => Option.bind_some _ _) ?_)
    obtain ⟨r, S, I⟩ := sync_ev a b n (hz2 hneg).1
    exact Ev.bind S (Ev.congr (fun k => Option.bind_some _ _) (Ev.bind I (ev_bind_c (eqStore_at _ _ _) (Ev.congr (fun k => if_pos rfl) (ev_const (fun k => if_neg (by simp)))))))
end Go.Proofs.YtnhgiincboocaaaDoor.PFnExactStoreSyncPure
