import Derived.Test.YtnhgiincboocaaaDoorPFnExactStoreSyncx10
namespace Go.Proofs.YtnhgiincboocaaaDoor.PFnExactStoreSyncPure
open Go.RowKit Go.Proofs.YtnhgiincboocaaaDoor.PFnExactStoreSync Go.Proofs.YtnhgiincboocaaaDoorW.PrintWords Go.Proofs.YtnhgiincboocaaaDoorW.PrintLast Go.Proofs.YtnhgiincboocaaaDoorW.PrintMore Go.Proofs.YtnhgiincboocaaaDoor.PFnExactStoreSyncPure
set_option linter.unusedVariables false
theorem w64 {x : Int} (h0 : -9223372036854775808 ≤ x) (h1 : x < 9223372036854775808) : wrap64 x = x := by unfold wrap64; omega
theorem rd_nat (l : List Int) (n : Nat) : rd l (n : Int) = l.getD n 0 := by simp [rd]
theorem ev_eq {α : Type} {g : Nat → Option α} {r : α} (f : Nat → Option α) (h : ∀ k, g (k + 1) = f k) (k : Ev f r) : Ev g r := Ev.step h k
/-- A loop's exit: at once. -/
theorem ev_ret {α : Type} {g : Nat → Option α} {r : α} (h : ∀ k, g (k + 1) = some r) : Ev g r := Ev.step (f := fun _ => some r) h (Ev.now r)
theorem ev_const {α : Type} {g : Nat → Option α} {r : α} (h : ∀ k, g k = some r) : Ev g r := Ev.congr h (Ev.now r)
theorem ev_bind_c {α β : Type} {g : Option α} {f : Nat → α → Option β} {a : α} {r : β} (h : g = some a) (k : Ev (fun n => f n a) r) : Ev (fun n => g.bind (f n)) r := by
  subst h; exact k
def allFrom (P : Nat → Bool) : Nat → Nat → Bool
  | _, 0 => true
  | n, d + 1 => P n && allFrom P (n + 1) d
theorem allFrom_iff (P : Nat → Bool) : ∀ (d n : Nat), allFrom P n d = true ↔ ∀ j, n ≤ j → j < n + d → P j = true := by
  intro d
  induction d with
  | zero => intro n; simp [allFrom]; omega
  | succ d ih =>
    intro n
    rw [allFrom, Bool.and_eq_true, ih]
    constructor
    · rintro ⟨h1, h2⟩ j hj1 hj2
      by_cases e : j = n
      · rw [e]; exact h1
      · exact h2 j (by omega) (by omega)
    · intro h
      exact ⟨h n (by omega) (by omega), fun j hj1 hj2 => h j (by omega) (by omega)⟩
/-- A loop that goes on as long as P, and then answers 'yes'; else 'no'. -/
theorem all_loop {α : Type} (P : Nat → Bool) (L : Nat → Nat → Option α) (yes no : α) (N : Nat) (hN : Ev (fun k => L k N) yes)
    (hs : ∀ n, n < N → P n = true → ∀ r, Ev (fun k => L k (n + 1)) r → Ev (fun k => L k n) r) (hx : ∀ n, n < N → P n = false → Ev (fun k => L k n) no) :
    ∀ (d n : Nat), n + d = N → Ev (fun k => L k n) (if allFrom P n d = true then yes else no) := by
  intro d
  induction d with
  | zero =>
    intro n h
    have e : n = N := by omega
    subst e
    simpa [allFrom] using hN
  | succ d ih =>
    intro n h
    cases hp : P n with
    | false =>
      have : allFrom P n (d + 1) = false := by simp [allFrom, hp]
      rw [this]
      simpa using hx n (by omega) hp
    | true =>
      have : allFrom P n (d + 1) = allFrom P (n + 1) d := by simp [allFrom, hp]
      rw [this]
      exact hs n (by omega) hp _ (ih (n + 1) (by omega))
theorem allFrom_congr (P Q : Nat → Bool) : ∀ (d n : Nat), (∀ j, n ≤ j → j < n + d → P j = Q j) → allFrom P n d = allFrom Q n d := by
  intro d
  induction d with
  | zero => intro n _; rfl
  | succ d ih =>
    intro n h
    rw [allFrom, allFrom, h n (by omega) (by omega), ih (n + 1) (fun j h1 h2 => h j (by omega) (by omega))]
/-- The same, where the answer is no: whatever stands behind the loop. -/
theorem all_loop_no {α : Type} (P : Nat → Bool) (L : Nat → Nat → Option α) (no : α) (N : Nat)
    (hs : ∀ n, n < N → P n = true → ∀ r, Ev (fun k => L k (n + 1)) r → Ev (fun k => L k n) r) (hx : ∀ n, n < N → P n = false → Ev (fun k => L k n) no) :
    ∀ (d n : Nat), n + d = N → allFrom P n d = false → Ev (fun k => L k n) no := by
  intro d
  induction d with
  | zero => intro n _ h; simp [allFrom] at h
  | succ d ih =>
    intro n h hf
    cases hp : P n with
    | false => exact hx n (by omega) hp
    | true =>
      refine hs n (by omega) hp _ (ih (n + 1) (by omega) ?_)
      simpa [allFrom, hp] using hf
def mk (l : List UInt8) : ByteArray := ⟨l.toArray⟩
theorem mk_size (l : List UInt8) : (mk l).size = l.length := by simp [mk, ByteArray.size]
theorem mk_list (l : List UInt8) : (mk l).data.toList = l := by simp [mk]
theorem mk_of (b : ByteArray) : mk b.data.toList = b := by obtain ⟨⟨l⟩⟩ := b; rfl
theorem size_list (b : ByteArray) : b.data.toList.length = b.size := by rw [Array.length_toList]; rfl
theorem ext_mk (b : ByteArray) (i j : Nat) : b.extract i j = mk ((b.data.toList.drop i).take (j - i)) := by
  obtain ⟨⟨l⟩⟩ := b
  rw [ByteArray.extract_mk]
  simp [mk]
theorem bt_get (b : ByteArray) (i : Nat) (h : i < b.data.toList.length) : bt b (i : Int) = ((b.data.toList[i]).toNat : Int) := by
  have h' : i < b.size := by rw [← size_list]; exact h
  unfold bt
  rw [dif_pos (by simpa using h')]
  rfl
/-- What stands between the bytes c. -/
def splitL (c : UInt8) : List UInt8 → List (List UInt8)
  | [] => [[]]
  | x :: l => if x = c then [] :: splitL c l else
    match splitL c l with
    | [] => [[x]]
    | h :: t => (x :: h) :: t
theorem splitL_ne (c : UInt8) (l : List UInt8) : splitL c l ≠ [] := by
  cases l with
  | nil => simp [splitL]
  | cons x l =>
    unfold splitL
    split
    · simp
    · split <;> simp
def glue (cur : List UInt8) : List (List UInt8) → List (List UInt8)
  | [] => [cur]
  | h :: t => (cur ++ h) :: t
theorem glue_nil (l : List (List UInt8)) (h : l ≠ []) : glue [] l = l := by
  cases l with
  | nil => exact absurd rfl h
  | cons => rfl
theorem splitL_len_le (c : UInt8) (l : List UInt8) : (splitL c l).length ≤ l.length + 1 := by
  induction l with
  | nil => simp [splitL]
  | cons x l ih =>
    unfold splitL
    split
    · simp only [List.length_cons]; omega
    · split <;> rename_i h <;> rw [h] at ih <;> simp only [List.length_cons, List.length_nil] at ih ⊢ <;> omega
theorem cut_l0 (s : ByteArray) (hs : s.size ≤ 1048576) (c : UInt8) : ∀ (d i fr : Nat) (acc : List ByteArray), i + d = s.size → fr ≤ i → acc.length ≤ fr →
    Ev (fun k => spec_l1Cut.l0 k s (c.toNat : Int) acc (fr : Int) (i : Int)) (acc ++ (glue ((s.data.toList.drop fr).take (i - fr)) (splitL c (s.data.toList.drop i))).map mk) := by
  intro d
  induction d with
  | zero =>
    intro i fr acc hi hf ha
    have e : s.data.toList.drop i = [] := List.drop_eq_nil_of_le (by rw [size_list]; omega)
    have e3 : s.extract ((fr : Int)).toNat s.size = mk ((s.data.toList.drop fr).take (i - fr)) := by rw [Int.toNat_natCast, ext_mk]; congr 2; omega
    rw [e]
    refine ev_ret (fun k => ?_)
    simp only [spec_l1Cut.l0]
    rw [if_neg (by omega), if_pos (by omega), if_pos (by omega), if_pos (by omega), e3]
    simp [splitL, glue]
  | succ d ih =>
    intro i fr acc hi hf ha
    have hlt : i < s.data.toList.length := by rw [size_list]; omega
    have ed : s.data.toList.drop i = s.data.toList[i] :: s.data.toList.drop (i + 1) := List.drop_eq_getElem_cons hlt
    have eb := bt_get s i hlt
    by_cases hc : s.data.toList[i] = c
    · have e1 : bt s (i : Int) = (c.toNat : Int) := by rw [eb, hc]
      refine ev_eq _ (fun k => ?_) (?_ : Ev (fun k => spec_l1Cut.l0 k s (c.toNat : Int) (acc ++ [s.extract fr i]) ((i + 1 : Nat) : Int) ((i + 1 : Nat) : Int)) _)
      · simp only [spec_l1Cut.l0]
        rw [if_pos (by omega), if_pos (by omega), if_pos e1, if_pos (by omega), if_pos (by omega), if_pos (by omega), if_pos (by omega), w64 (by omega) (by omega)]
        rfl
      · have h := ih (i + 1) (i + 1) (acc ++ [s.extract fr i]) (by omega) (Nat.le_refl _) (by simp; omega)
        rw [Nat.sub_self, List.take_zero, glue_nil _ (splitL_ne _ _)] at h
        rw [ed]
        have e2 : splitL c (s.data.toList[i] :: s.data.toList.drop (i + 1)) = [] :: splitL c (s.data.toList.drop (i + 1)) := by rw [splitL, if_pos hc]
        rw [e2]
        simp only [glue, List.append_nil, List.map_cons]
        rw [ext_mk, List.append_assoc, List.singleton_append] at h
        rw [ext_mk]
        exact h
    · have e1 : ¬ bt s (i : Int) = (c.toNat : Int) := by
        rw [eb]
        intro h
        exact hc (UInt8.toNat_inj.1 (by omega))
      refine ev_eq _ (fun k => ?_) (?_ : Ev (fun k => spec_l1Cut.l0 k s (c.toNat : Int) acc (fr : Int) ((i + 1 : Nat) : Int)) _)
      · simp only [spec_l1Cut.l0]
        rw [if_pos (by omega), if_pos (by omega), if_neg e1, w64 (by omega) (by omega)]
        rfl
      · have h := ih (i + 1) fr acc (by omega) (by omega) ha
        have e4 : glue ((s.data.toList.drop fr).take (i + 1 - fr)) (splitL c (s.data.toList.drop (i + 1))) = glue ((s.data.toList.drop fr).take (i - fr)) (splitL c (s.data.toList.drop i)) := by
          rw [ed, splitL, if_neg hc]
          have e5 : (s.data.toList.drop fr).take (i + 1 - fr) = (s.data.toList.drop fr).take (i - fr) ++ [s.data.toList[i]] := by
            have hh : i - fr < (s.data.toList.drop fr).length := by rw [List.length_drop]; omega
            rw [show i + 1 - fr = (i - fr) + 1 by omega, List.take_succ_eq_append_getElem hh]
            congr 2
            rw [List.getElem_drop]
            congr 1
            omega
          rw [e5]
          cases hsp : splitL c (s.data.toList.drop (i + 1)) with
          | nil => exact absurd hsp (splitL_ne _ _)
          | cons a t => simp [glue]
        rw [e4] at h
        exact h
theorem cut_ev (s : ByteArray) (hs : s.size ≤ 1048576) (c : UInt8) : Ev (fun k => spec_l1Cut.f k s (c.toNat : Int)) ((splitL c s.data.toList).map mk) := by
  unfold spec_l1Cut.f
  have h := cut_l0 s hs c s.size 0 0 [] (by omega) (Nat.le_refl _) (by simp)
  rw [Nat.sub_self, List.take_zero, List.drop_zero, glue_nil _ (splitL_ne _ _), List.nil_append] at h
  exact h
end Go.Proofs.YtnhgiincboocaaaDoor.PFnExactStoreSyncPure
