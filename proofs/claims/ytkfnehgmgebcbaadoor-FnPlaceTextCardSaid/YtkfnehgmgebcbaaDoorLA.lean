import Derived.Test.YtkfnehgmgebcbaaDoorPFnPlaceTextx12
namespace Go.Proofs.YtkfnehgmgebcbaaDoor.PFnPlaceTextPure
open Go.RowKit Go.Proofs.YtkfnehgmgebcbaaDoor.PFnPlaceText Go.Proofs.YtkfnehgmgebcbaaDoorW.PrintWords Go.Proofs.YtkfnehgmgebcbaaDoorW.PrintLast Go.Proofs.YtkfnehgmgebcbaaDoorW.PrintMore Go.Proofs.YtkfnehgmgebcbaaDoor.PFnPlaceTextPure
set_option linter.unusedVariables false
theorem w64 {x : Int} (h0 : -9223372036854775808 ≤ x) (h1 : x < 9223372036854775808) : wrap64 x = x := by unfold wrap64; omega
theorem rd_nat (l : List Int) (n : Nat) : rd l (n : Int) = l.getD n 0 := by simp [rd]
theorem ev_eq {α : Type} {g : Nat → Option α} {r : α} (f : Nat → Option α) (h : ∀ k, g (k + 1) = f k) (k : Ev f r) : Ev g r := Ev.step h k
/-- A loop's exit: at once. -/
theorem ev_ret {α : Type} {g : Nat → Option α} {r : α} (h : ∀ k, g (k + 1) = some r) : Ev g r := Ev.step (f := fun _ => some r) h (Ev.now r)
theorem ev_const {α : Type} {g : Nat → Option α} {r : α} (h : ∀ k, g k = some r) : Ev g r := Ev.congr h (Ev.now r)
theorem ev_bind_c {α β : Type} {g : Option α} {f : Nat → α → Option β} {a : α} {r : β} (h : g = some a) (k : Ev (fun n => f n a) r) : Ev (fun n => g.bind (f n)) r := by
  subst h; exact k
def allFrom (P : Nat → Bool) : Nat → Nat → Bool
  | _, 0 => true
  | n, d + 1 => P n && allFrom P (n + 1) d
theorem allFrom_iff (P : Nat → Bool) : ∀ (d n : Nat), allFrom P n d = true ↔ ∀ j, n ≤ j → j < n + d → P j = true := by
  intro d
  induction d with
  | zero => intro n; simp [allFrom]; omega
  | succ d ih =>
    intro n
    rw [allFrom, Bool.and_eq_true, ih]
    constructor
    · rintro ⟨h1, h2⟩ j hj1 hj2
      by_cases e : j = n
      · rw [e]; exact h1
      · exact h2 j (by omega) (by omega)
    · intro h
      exact ⟨h n (by omega) (by omega), fun j hj1 hj2 => h j (by omega) (by omega)⟩
/-- A loop that goes on as long as P, and then answers 'yes'; else 'no'. -/
theorem all_loop {α : Type} (P : Nat → Bool) (L : Nat → Nat → Option α) (yes no : α) (N : Nat) (hN : Ev (fun k => L k N) yes)
    (hs : ∀ n, n < N → P n = true → ∀ r, Ev (fun k => L k (n + 1)) r → Ev (fun k => L k n) r) (hx : ∀ n, n < N → P n = false → Ev (fun k => L k n) no) :
    ∀ (d n : Nat), n + d = N → Ev (fun k => L k n) (if allFrom P n d = true then yes else no) := by
  intro d
  induction d with
  | zero =>
    intro n h
    have e : n = N := by omega
    subst e
    simpa [allFrom] using hN
  | succ d ih =>
    intro n h
    cases hp : P n with
    | false =>
      have : allFrom P n (d + 1) = false := by simp [allFrom, hp]
      rw [this]
      simpa using hx n (by omega) hp
    | true =>
      have : allFrom P n (d + 1) = allFrom P (n + 1) d := by simp [allFrom, hp]
      rw [this]
      exact hs n (by omega) hp _ (ih (n + 1) (by omega))
theorem allFrom_congr (P Q : Nat → Bool) : ∀ (d n : Nat), (∀ j, n ≤ j → j < n + d → P j = Q j) → allFrom P n d = allFrom Q n d := by
  intro d
  induction d with
  | zero => intro n _; rfl
  | succ d ih =>
    intro n h
    rw [allFrom, allFrom, h n (by omega) (by omega), ih (n + 1) (fun j h1 h2 => h j (by omega) (by omega))]
/-- The same, where the answer is no: whatever stands behind the loop. -/
theorem all_loop_no {α : Type} (P : Nat → Bool) (L : Nat → Nat → Option α) (no : α) (N : Nat)
    (hs : ∀ n, n < N → P n = true → ∀ r, Ev (fun k => L k (n + 1)) r → Ev (fun k => L k n) r) (hx : ∀ n, n < N → P n = false → Ev (fun k => L k n) no) :
    ∀ (d n : Nat), n + d = N → allFrom P n d = false → Ev (fun k => L k n) no := by
  intro d
  induction d with
  | zero => intro n _ h; simp [allFrom] at h
  | succ d ih =>
    intro n h hf
    cases hp : P n with
    | false => exact hx n (by omega) hp
    | true =>
      refine hs n (by omega) hp _ (ih (n + 1) (by omega) ?_)
      simpa [allFrom, hp] using hf
def mk (l : List UInt8) : ByteArray := ⟨l.toArray⟩
theorem mk_size (l : List UInt8) : (mk l).size = l.length := by simp [mk, ByteArray.size]
theorem mk_list (l : List UInt8) : (mk l).data.toList = l := by simp [mk]
theorem mk_of (b : ByteArray) : mk b.data.toList = b := by obtain ⟨⟨l⟩⟩ := b; rfl
theorem size_list (b : ByteArray) : b.data.toList.length = b.size := by rw [Array.length_toList]; rfl
theorem ext_mk (b : ByteArray) (i j : Nat) : b.extract i j = mk ((b.data.toList.drop i).take (j - i)) := by
  obtain ⟨⟨l⟩⟩ := b
  rw [ByteArray.extract_mk]
  simp [mk]
theorem bt_get (b : ByteArray) (i : Nat) (h : i < b.data.toList.length) : bt b (i : Int) = ((b.data.toList[i]).toNat : Int) := by
  have h' : i < b.size := by rw [← size_list]; exact h
  unfold bt
  rw [dif_pos (by simpa using h')]
  rfl
/-- What stands between the bytes c. -/
def splitL (c : UInt8) : List UInt8 → List (List UInt8)
  | [] => [[]]
  | x :: l => if x = c then [] :: splitL c l else
    match splitL c l with
    | [] => [[x]]
    | h :: t => (x :: h) :: t
theorem splitL_ne (c : UInt8) (l : List UInt8) : splitL c l ≠ [] := by
  cases l with
  | nil => simp [splitL]
  | cons x l =>
    unfold splitL
    split
    · simp
    · split <;> simp
def glue (cur : List UInt8) : List (List UInt8) → List (List UInt8)
  | [] => [cur]
  | h :: t => (cur ++ h) :: t
theorem glue_nil (l : List (List UInt8)) (h : l ≠ []) : glue [] l = l := by
  cases l with
  | nil => exact absurd rfl h
  | cons => rfl
theorem splitL_len_le (c : UInt8) (l : List UInt8) : (splitL c l).length ≤ l.length + 1 := by
  induction l with
  | nil => simp [splitL]
  | cons x l ih =>
    unfold splitL
    split
    · simp only [List.length_cons]; omega
    · split <;> rename_i h <;> rw [h] at ih <;> simp only [List.length_cons, List.length_nil] at ih ⊢ <;> omega
end Go.Proofs.YtkfnehgmgebcbaaDoor.PFnPlaceTextPure
