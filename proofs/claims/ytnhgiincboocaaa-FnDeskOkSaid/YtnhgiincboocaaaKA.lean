import Derived.Test.YtnhgiincboocaaaPFnDeskOkx14
namespace Go.Proofs.Ytnhgiincboocaaa.PFnDeskOkPure
open Go.RowKit Go.Proofs.Ytnhgiincboocaaa.PFnDeskOk Go.Proofs.YtnhgiincboocaaaW.PrintWords Go.Proofs.YtnhgiincboocaaaW.PrintLast Go.Proofs.YtnhgiincboocaaaW.PrintMore Go.Proofs.Ytnhgiincboocaaa.PFnDeskOkPure
set_option linter.unusedVariables false
theorem w64 {x : Int} (h0 : -9223372036854775808 ≤ x) (h1 : x < 9223372036854775808) : wrap64 x = x := by unfold wrap64; omega
theorem rd_nat (l : List Int) (n : Nat) : rd l (n : Int) = l.getD n 0 := by simp [rd]
theorem ev_eq {α : Type} {g : Nat → Option α} {r : α} (f : Nat → Option α) (h : ∀ k, g (k + 1) = f k) (k : Ev f r) : Ev g r := Ev.step h k
/-- A loop's exit: at once. -/
theorem ev_ret {α : Type} {g : Nat → Option α} {r : α} (h : ∀ k, g (k + 1) = some r) : Ev g r := Ev.step (f := fun _ => some r) h (Ev.now r)
theorem ev_const {α : Type} {g : Nat → Option α} {r : α} (h : ∀ k, g k = some r) : Ev g r := Ev.congr h (Ev.now r)
theorem ev_bind_c {α β : Type} {g : Option α} {f : Nat → α → Option β} {a : α} {r : β} (h : g = some a) (k : Ev (fun n => f n a) r) : Ev (fun n => g.bind (f n)) r := by
  subst h; exact k
def allFrom (P : Nat → Bool) : Nat → Nat → Bool
  | _, 0 => true
  | n, d + 1 => P n && allFrom P (n + 1) d
theorem allFrom_iff (P : Nat → Bool) : ∀ (d n : Nat), allFrom P n d = true ↔ ∀ j, n ≤ j → j < n + d → P j = true := by
  intro d
  induction d with
  | zero => intro n; simp [allFrom]; omega
  | succ d ih =>
    intro n
    rw [allFrom, Bool.and_eq_true, ih]
    constructor
    · rintro ⟨h1, h2⟩ j hj1 hj2
      by_cases e : j = n
      · rw [e]; exact h1
      · exact h2 j (by omega) (by omega)
    · intro h
      exact ⟨h n (by omega) (by omega), fun j hj1 hj2 => h j (by omega) (by omega)⟩
/-- A loop that goes on as long as P, and then answers 'yes'; else 'no'. -/
theorem all_loop {α : Type} (P : Nat → Bool) (L : Nat → Nat → Option α) (yes no : α) (N : Nat) (hN : Ev (fun k => L k N) yes)
    (hs : ∀ n, n < N → P n = true → ∀ r, Ev (fun k => L k (n + 1)) r → Ev (fun k => L k n) r) (hx : ∀ n, n < N → P n = false → Ev (fun k => L k n) no) :
    ∀ (d n : Nat), n + d = N → Ev (fun k => L k n) (if allFrom P n d = true then yes else no) := by
  intro d
  induction d with
  | zero =>
    intro n h
    have e : n = N := by omega
    subst e
    simpa [allFrom] using hN
  | succ d ih =>
    intro n h
    cases hp : P n with
    | false =>
      have : allFrom P n (d + 1) = false := by simp [allFrom, hp]
      rw [this]
      simpa using hx n (by omega) hp
    | true =>
      have : allFrom P n (d + 1) = allFrom P (n + 1) d := by simp [allFrom, hp]
      rw [this]
      exact hs n (by omega) hp _ (ih (n + 1) (by omega))
theorem allFrom_congr (P Q : Nat → Bool) : ∀ (d n : Nat), (∀ j, n ≤ j → j < n + d → P j = Q j) → allFrom P n d = allFrom Q n d := by
  intro d
  induction d with
  | zero => intro n _; rfl
  | succ d ih =>
    intro n h
    rw [allFrom, allFrom, h n (by omega) (by omega), ih (n + 1) (fun j h1 h2 => h j (by omega) (by omega))]
/-- The same, where the answer is no: whatever stands behind the loop. -/
theorem all_loop_no {α : Type} (P : Nat → Bool) (L : Nat → Nat → Option α) (no : α) (N : Nat)
    (hs : ∀ n, n < N → P n = true → ∀ r, Ev (fun k => L k (n + 1)) r → Ev (fun k => L k n) r) (hx : ∀ n, n < N → P n = false → Ev (fun k => L k n) no) :
    ∀ (d n : Nat), n + d = N → allFrom P n d = false → Ev (fun k => L k n) no := by
  intro d
  induction d with
  | zero => intro n _ h; simp [allFrom] at h
  | succ d ih =>
    intro n h hf
    cases hp : P n with
    | false => exact hx n (by omega) hp
    | true =>
      refine hs n (by omega) hp _ (ih (n + 1) (by omega) ?_)
      simpa [allFrom, hp] using hf
def mk (l : List UInt8) : ByteArray := ⟨l.toArray⟩
theorem mk_size (l : List UInt8) : (mk l).size = l.length := by simp [mk, ByteArray.size]
theorem mk_list (l : List UInt8) : (mk l).data.toList = l := by simp [mk]
theorem mk_of (b : ByteArray) : mk b.data.toList = b := by obtain ⟨⟨l⟩⟩ := b; rfl
theorem size_list (b : ByteArray) : b.data.toList.length = b.size := by rw [Array.length_toList]; rfl
theorem ext_mk (b : ByteArray) (i j : Nat) : b.extract i j = mk ((b.data.toList.drop i).take (j - i)) := by
  obtain ⟨⟨l⟩⟩ := b
  rw [ByteArray.extract_mk]
  simp [mk]
theorem bt_get (b : ByteArray) (i : Nat) (h : i < b.data.toList.length) : bt b (i : Int) = ((b.data.toList[i]).toNat : Int) := by
  have h' : i < b.size := by rw [← size_list]; exact h
  unfold bt
  rw [dif_pos (by simpa using h')]
  rfl
/-- What stands between the bytes c. -/
def splitL (c : UInt8) : List UInt8 → List (List UInt8)
  | [] => [[]]
  | x :: l => if x = c then [] :: splitL c l else
    match splitL c l with
    | [] => [[x]]
    | h :: t => (x :: h) :: t
theorem splitL_ne (c : UInt8) (l : List UInt8) : splitL c l ≠ [] := by
  cases l with
  | nil => simp [splitL]
  | cons x l =>
    unfold splitL
    split
    · simp
    · split <;> simp
def glue (cur : List UInt8) : List (List UInt8) → List (List UInt8)
  | [] => [cur]
  | h :: t => (cur ++ h) :: t
theorem glue_nil (l : List (List UInt8)) (h : l ≠ []) : glue [] l = l := by
  cases l with
  | nil => exact absurd rfl h
  | cons => rfl
theorem splitL_len_le (c : UInt8) (l : List UInt8) : (splitL c l).length ≤ l.length + 1 := by
  induction l with
  | nil => simp [splitL]
  | cons x l ih =>
    unfold splitL
    split
    · simp only [List.length_cons]; omega
    · split <;> rename_i h <;> rw [h] at ih <;> simp only [List.length_cons, List.length_nil] at ih ⊢ <;> omega
def bI (x : Int) (j : Int) : Int := Go.bits .and .i64 (shr .i64 x j) 1
def tB (x : Int) (j : Int) : Int := Int.tmod (shr .i64 x j) 2
def inR (n : Nat) (x : Int) : Bool := decide (0 ≤ x) && decide (x < 2 ^ n)
theorem shl_one {n : Nat} (h : n ≤ 6) : shl .i64 1 (n : Int) = 2 ^ n := by
  have : n = 0 ∨ n = 1 ∨ n = 2 ∨ n = 3 ∨ n = 4 ∨ n = 5 ∨ n = 6 := by omega
  rcases this with rfl | rfl | rfl | rfl | rfl | rfl | rfl <;> decide
theorem shl_le (n : Nat) (h : n ≤ 6) : shl .i64 1 (n : Int) ≤ 64 := by
  have : n = 0 ∨ n = 1 ∨ n = 2 ∨ n = 3 ∨ n = 4 ∨ n = 5 ∨ n = 6 := by omega
  rcases this with rfl | rfl | rfl | rfl | rfl | rfl | rfl <;> decide
def rowI (l : List Int) (i : Nat) : Bool := inR l.length (rd l i) && !(bI (rd l i) i == 1) && allFrom (fun k => decide (bI (rd l i) k = bI (rd l k) i)) 0 l.length
def netI (l : List Int) : Bool := decide (1 ≤ l.length) && decide (l.length ≤ 6) && allFrom (rowI l) 0 l.length
theorem impl_net_l1 (l : List Int) (h6 : l.length ≤ 6) (i : Nat) (hi : i < l.length) (r : Bool) (hr : Ev (fun k => impl_NetOk.l0 k l l (l.length : Int) ((i + 1 : Nat) : Int)) r) :
    Ev (fun k => impl_NetOk.l1 k l i (rd l i) l (l.length : Int) i (l.length : Int) 0) (if allFrom (fun k => decide (bI (rd l i) k = bI (rd l k) i)) 0 l.length = true then r else false) := by
  refine all_loop (fun k => decide (bI (rd l i) k = bI (rd l k) i)) (fun k n => impl_NetOk.l1 k l i (rd l i) l (l.length : Int) i (l.length : Int) (n : Int)) r false l.length ?_ ?_ ?_ l.length 0 (by omega)
  · refine ev_eq _ (fun k => ?_) hr
    simp only [impl_NetOk.l1]
    rw [if_neg (by omega), w64 (by omega) (by omega)]
    rfl
  · intro n hn hp q hq
    refine ev_eq _ (fun k => ?_) hq
    simp only [impl_NetOk.l1]
    rw [if_pos (by omega), if_pos (by omega), if_pos (by omega), if_pos (by omega), if_pos (show Go.bits .and .i64 (shr .i64 (rd l i) n) 1 = Go.bits .and .i64 (shr .i64 (rd l n) i) 1 from of_decide_eq_true hp), w64 (by omega) (by omega)]
    rfl
  · intro n hn hp
    refine ev_ret (fun k => ?_)
    simp only [impl_NetOk.l1]
    rw [if_pos (by omega), if_pos (by omega), if_pos (by omega), if_pos (by omega), if_neg (show ¬ Go.bits .and .i64 (shr .i64 (rd l i) n) 1 = Go.bits .and .i64 (shr .i64 (rd l n) i) 1 from of_decide_eq_false hp)]
theorem impl_net_l0 (l : List Int) (h6 : l.length ≤ 6) : Ev (fun k => impl_NetOk.l0 k l l (l.length : Int) 0) (if allFrom (rowI l) 0 l.length = true then true else false) := by
  refine all_loop (rowI l) (fun k n => impl_NetOk.l0 k l l (l.length : Int) (n : Int)) true false l.length ?_ ?_ ?_ l.length 0 (by omega)
  · refine ev_ret (fun k => ?_)
    simp only [impl_NetOk.l0]
    rw [if_neg (by omega)]
  · intro n hn hp q hq
    simp only [rowI, inR, Bool.and_eq_true, decide_eq_true_eq, Bool.not_eq_true'] at hp
    obtain ⟨⟨⟨a1, a2⟩, a3⟩, a4⟩ := hp
    have h := impl_net_l1 l h6 n hn q hq
    rw [if_pos a4] at h
    refine ev_eq _ (fun k => ?_) (ev_eq (g := fun k => impl_NetOk.j2 k l n (rd l n) l (l.length : Int) n false) _ (fun k => ?_) h)
    · simp only [impl_NetOk.l0]
      rw [if_pos (by omega), if_pos (by omega), if_pos (by omega), if_neg (by omega), if_neg (by rw [shl_one h6]; omega)]
      rw [show (Go.bits .and .i64 (shr .i64 (rd l n) n) 1 == 1) = false from a3]
    · simp only [impl_NetOk.j2]
      rw [if_neg (by decide)]
  · intro n hn hp
    by_cases a1 : rd l n < 0
    · refine ev_eq _ (fun k => ?_) (ev_ret (g := fun k => impl_NetOk.j2 k l n (rd l n) l (l.length : Int) n true) (r := false) (fun k => ?_))
      · simp only [impl_NetOk.l0]
        rw [if_pos (by omega), if_pos (by omega), if_pos (by omega), if_pos a1]
      · simp only [impl_NetOk.j2]
        rw [if_pos trivial]
    · by_cases a2 : rd l n ≥ shl .i64 1 (l.length : Int)
      · refine ev_eq _ (fun k => ?_) (ev_ret (g := fun k => impl_NetOk.j2 k l n (rd l n) l (l.length : Int) n true) (r := false) (fun k => ?_))
        · simp only [impl_NetOk.l0]
          rw [if_pos (by omega), if_pos (by omega), if_pos (by omega), if_neg a1, if_pos a2]
        · simp only [impl_NetOk.j2]
          rw [if_pos trivial]
      · cases a3 : (Go.bits .and .i64 (shr .i64 (rd l n) n) 1 == 1) with
        | true =>
          refine ev_eq _ (fun k => ?_) (ev_ret (g := fun k => impl_NetOk.j2 k l n (rd l n) l (l.length : Int) n true) (r := false) (fun k => ?_))
          · simp only [impl_NetOk.l0]
            rw [if_pos (by omega), if_pos (by omega), if_pos (by omega), if_neg a1, if_neg a2, a3]
          · simp only [impl_NetOk.j2]
            rw [if_pos trivial]
        | false =>
          rw [shl_one h6] at a2
          have a4 : allFrom (fun k => decide (bI (rd l n) k = bI (rd l k) n)) 0 l.length = false := by
            cases h4 : allFrom (fun k => decide (bI (rd l n) k = bI (rd l k) n)) 0 l.length with
            | false => rfl
            | true =>
              have : rowI l n = true := by
                have a3' : (bI (rd l n) n == 1) = false := a3
                simp only [rowI, inR, h4, a3', Bool.and_true, Bool.not_false, Bool.and_eq_true, decide_eq_true_eq]
                omega
              rw [this] at hp
              exact absurd hp (by decide)
          -- the inner loop says no, whatever stands behind it
          have h : Ev (fun k => impl_NetOk.l1 k l n (rd l n) l (l.length : Int) n (l.length : Int) 0) false := by
            have key : ∀ (d m : Nat), m + d = l.length → allFrom (fun k => decide (bI (rd l n) k = bI (rd l k) n)) m d = false → Ev (fun k => impl_NetOk.l1 k l n (rd l n) l (l.length : Int) n (l.length : Int) (m : Int)) false := by
              intro d
              induction d with
              | zero => intro m _ h; simp [allFrom] at h
              | succ d ih =>
                intro m hm h
                by_cases e : bI (rd l n) m = bI (rd l m) n
                · have h' : allFrom (fun k => decide (bI (rd l n) k = bI (rd l k) n)) (m + 1) d = false := by simpa [allFrom, e] using h
                  refine ev_eq _ (fun k => ?_) (ih (m + 1) (by omega) h')
                  simp only [impl_NetOk.l1]
                  rw [if_pos (by omega), if_pos (by omega), if_pos (by omega), if_pos (by omega), if_pos (show Go.bits .and .i64 (shr .i64 (rd l n) m) 1 = Go.bits .and .i64 (shr .i64 (rd l m) n) 1 from e), w64 (by omega) (by omega)]
                  rfl
                · refine ev_ret (fun k => ?_)
                  simp only [impl_NetOk.l1]
                  rw [if_pos (by omega), if_pos (by omega), if_pos (by omega), if_pos (by omega), if_neg (show ¬ Go.bits .and .i64 (shr .i64 (rd l n) m) 1 = Go.bits .and .i64 (shr .i64 (rd l m) n) 1 from e)]
            exact key l.length 0 (by omega) a4
          refine ev_eq _ (fun k => ?_) (ev_eq (g := fun k => impl_NetOk.j2 k l n (rd l n) l (l.length : Int) n false) _ (fun k => ?_) h)
          · simp only [impl_NetOk.l0]
            rw [if_pos (by omega), if_pos (by omega), if_pos (by omega), if_neg a1, if_neg (by rw [shl_one h6]; exact a2), a3]
          · simp only [impl_NetOk.j2]
            rw [if_neg (by decide)]
theorem impl_net_ev (l : List Int) : Ev (fun k => impl_NetOk.f k l) (netI l) := by
  unfold impl_NetOk.f
  by_cases h1 : (l.length : Int) < 1
  · have e : netI l = false := by simp [netI]; omega
    rw [e]
    refine Ev.congr (fun k => if_pos h1) (ev_ret (fun k => ?_))
    simp only [impl_NetOk.j0]; rw [if_pos trivial]
  · by_cases h6 : l.length ≤ 6
    · have e : netI l = (if allFrom (rowI l) 0 l.length = true then true else false) := by
        simp only [netI, decide_eq_true h6, decide_eq_true (show 1 ≤ l.length by omega), Bool.true_and]
        cases allFrom (rowI l) 0 l.length <;> rfl
      rw [e]
      refine Ev.congr (fun k => if_neg h1) (ev_eq _ (fun k => ?_) (impl_net_l0 l h6))
      simp only [impl_NetOk.j0]
      rw [if_neg (by rw [decide_eq_true_eq]; omega)]
    · have e : netI l = false := by simp [netI]; omega
      rw [e]
      refine Ev.congr (fun k => if_neg h1) (ev_ret (fun k => ?_))
      simp only [impl_NetOk.j0]; rw [if_pos (by rw [decide_eq_true_eq]; omega)]
theorem l1In_eq (a b c : Int) : spec_l1In.f a b c = some (decide (b ≤ a) && decide (a ≤ c)) := by
  unfold spec_l1In.f
  by_cases h : a ≥ b
  · rw [if_pos h, decide_eq_true (show b ≤ a from h), Bool.true_and]
  · rw [if_neg h, decide_eq_false (show ¬ b ≤ a from h), Bool.false_and]
def pairS (l : List Int) (i j : Nat) : Bool := decide (tB (rd l i) j = tB (rd l j) i) && !(decide (j = i) && decide (tB (rd l i) j = 1))
def netS (l : List Int) : Bool := decide (1 ≤ l.length) && decide (l.length ≤ 6) && allFrom (fun i => inR l.length (rd l i)) 0 l.length && allFrom (fun i => allFrom (pairS l i) 0 l.length) 0 l.length
theorem spec_net_step (l : List Int) (h6 : l.length ≤ 6) (i : Nat) (hi : i < l.length) (n : Nat) (hn : n < l.length) (hp : pairS l i n = true) (r : Bool) (hq : Ev (fun k => spec_NetOk.l2 k l i ((n + 1 : Nat) : Int)) r) : Ev (fun k => spec_NetOk.l2 k l i (n : Int)) r := by
  simp only [pairS, Bool.and_eq_true, decide_eq_true_eq, Bool.not_eq_true', Bool.and_eq_false_iff, decide_eq_false_iff_not] at hp
  obtain ⟨h1, h2⟩ := hp
  refine ev_eq _ (fun k => ?_) hq
  simp only [spec_NetOk.l2]
  rw [if_pos (by omega), if_pos (by omega), if_pos (by omega), if_pos (by omega), if_pos (show Int.tmod (shr .i64 (rd l i) n) 2 = Int.tmod (shr .i64 (rd l n) i) 2 from h1), w64 (by omega) (by omega)]
  by_cases e : n = i
  · have h3 : ¬ Int.tmod (shr .i64 (rd l i) n) 2 = 1 := by rcases h2 with h2 | h2; exact absurd e h2; exact h2
    rw [if_pos (by omega), if_neg h3]
    rfl
  · rw [if_neg (by omega)]
    rfl
theorem spec_net_stop (l : List Int) (h6 : l.length ≤ 6) (i : Nat) (hi : i < l.length) (n : Nat) (hn : n < l.length) (hp : pairS l i n = false) : Ev (fun k => spec_NetOk.l2 k l i (n : Int)) false := by
  refine ev_ret (fun k => ?_)
  simp only [spec_NetOk.l2]
  rw [if_pos (by omega), if_pos (by omega), if_pos (by omega), if_pos (by omega)]
  by_cases h1 : tB (rd l i) n = tB (rd l n) i
  · rw [if_pos (show Int.tmod (shr .i64 (rd l i) n) 2 = Int.tmod (shr .i64 (rd l n) i) 2 from h1)]
    simp only [pairS, h1, decide_true, Bool.true_and, Bool.not_eq_false', Bool.and_eq_true, decide_eq_true_eq] at hp
    obtain ⟨e, h2⟩ := hp
    subst e
    rw [if_pos rfl, if_pos (show Int.tmod (shr .i64 (rd l n) n) 2 = 1 from h2)]
  · rw [if_neg (show ¬ Int.tmod (shr .i64 (rd l i) n) 2 = Int.tmod (shr .i64 (rd l n) i) 2 from h1)]
theorem spec_net_l1 (l : List Int) (h6 : l.length ≤ 6) : Ev (fun k => spec_NetOk.l1 k l 0) (if allFrom (fun i => allFrom (pairS l i) 0 l.length) 0 l.length = true then true else false) := by
  refine all_loop (fun i => allFrom (pairS l i) 0 l.length) (fun k n => spec_NetOk.l1 k l (n : Int)) true false l.length ?_ ?_ ?_ l.length 0 (by omega)
  · refine ev_ret (fun k => ?_)
    simp only [spec_NetOk.l1]
    rw [if_neg (by omega)]
  · intro i hi hp q hq
    have h := all_loop (pairS l i) (fun k n => spec_NetOk.l2 k l i (n : Int)) q false l.length (ev_eq _ (fun k => by
      simp only [spec_NetOk.l2]
      rw [if_neg (by omega), w64 (by omega) (by omega)]
      rfl) hq) (fun n hn hp r hr => spec_net_step l h6 i hi n hn hp r hr) (fun n hn hp => spec_net_stop l h6 i hi n hn hp) l.length 0 (by omega)
    rw [if_pos hp] at h
    refine ev_eq _ (fun k => ?_) h
    simp only [spec_NetOk.l1]
    rw [if_pos (by omega)]
    rfl
  · intro i hi hp
    have h := all_loop_no (pairS l i) (fun k n => spec_NetOk.l2 k l i (n : Int)) false l.length (fun n hn hp r hr => spec_net_step l h6 i hi n hn hp r hr) (fun n hn hp => spec_net_stop l h6 i hi n hn hp) l.length 0 (by omega) hp
    refine ev_eq _ (fun k => ?_) h
    simp only [spec_NetOk.l1]
    rw [if_pos (by omega)]
    rfl
theorem spec_net_l0 (l : List Int) (h6 : l.length ≤ 6) : Ev (fun k => spec_NetOk.l0 k l 0) (allFrom (fun i => inR l.length (rd l i)) 0 l.length && allFrom (fun i => allFrom (pairS l i) 0 l.length) 0 l.length) := by
  have h := all_loop (fun i => inR l.length (rd l i)) (fun k n => spec_NetOk.l0 k l (n : Int)) (if allFrom (fun i => allFrom (pairS l i) 0 l.length) 0 l.length = true then true else false) false l.length ?_ ?_ ?_ l.length 0 (by omega)
  · cases h1 : allFrom (fun i => inR l.length (rd l i)) 0 l.length <;> cases h2 : allFrom (fun i => allFrom (pairS l i) 0 l.length) 0 l.length <;> simp only [h1, h2, if_true, Bool.and_true, Bool.and_false] at h ⊢ <;> simpa using h
  · refine ev_eq _ (fun k => ?_) (spec_net_l1 l h6)
    simp only [spec_NetOk.l0]
    rw [if_neg (by omega)]
  · intro n hn hp q hq
    simp only [inR, Bool.and_eq_true, decide_eq_true_eq] at hp
    refine ev_eq _ (fun k => ?_) hq
    simp only [spec_NetOk.l0, l1In_eq, Option.bind_some]
    have hp64 : (2:Int) ^ l.length ≤ 64 := by { rw [← shl_one h6]; exact shl_le l.length h6 }
    rw [if_pos (by omega), if_pos (by omega), shl_one h6, w64 (x := 2 ^ l.length - 1) (by omega) (by omega), if_pos (by simp only [Bool.and_eq_true, decide_eq_true_eq]; omega), w64 (x := (n : Int) + 1) (by omega) (by omega)]
    rfl
  · intro n hn hp
    refine ev_ret (fun k => ?_)
    simp only [spec_NetOk.l0, l1In_eq, Option.bind_some]
    rw [if_pos (by omega), if_pos (by omega), shl_one h6, w64 (x := 2 ^ l.length - 1) (by have := Int.pow_pos (n := 2) (m := l.length) (by omega); omega) (by have : (2:Int) ^ l.length ≤ 64 := by { rw [← shl_one h6]; exact shl_le l.length h6 }; omega), if_neg]
    intro hc
    simp only [Bool.and_eq_true, decide_eq_true_eq] at hc
    simp only [inR, Bool.and_eq_false_iff, decide_eq_false_iff_not] at hp
    omega
theorem spec_net_ev (l : List Int) : Ev (fun k => spec_NetOk.f k l) (netS l) := by
  unfold spec_NetOk.f
  simp only [l1In_eq, Option.bind_some]
  by_cases h : 1 ≤ l.length ∧ l.length ≤ 6
  · have e : netS l = (allFrom (fun i => inR l.length (rd l i)) 0 l.length && allFrom (fun i => allFrom (pairS l i) 0 l.length) 0 l.length) := by
      simp only [netS, decide_eq_true h.1, decide_eq_true h.2, Bool.true_and]
    rw [e]
    refine Ev.congr (fun k => if_pos ?_) (spec_net_l0 l h.2)
    simp only [Bool.and_eq_true, decide_eq_true_eq]
    omega
  · have e : netS l = false := by
      cases h1 : decide (1 ≤ l.length) <;> cases h2 : decide (l.length ≤ 6) <;> simp only [netS, h1, h2, Bool.false_and, Bool.and_false]
      exact absurd ⟨of_decide_eq_true h1, of_decide_eq_true h2⟩ h
    rw [e]
    refine ev_const (fun k => if_neg ?_)
    simp only [Bool.and_eq_true, decide_eq_true_eq]
    omega
theorem bits_eq : ∀ x : Fin 64, ∀ j : Fin 6, bI (x.val : Int) (j.val : Int) = tB (x.val : Int) (j.val : Int) := by decide +kernel
theorem bI_tB {x : Int} {j : Nat} (h0 : 0 ≤ x) (h1 : x < 64) (hj : j < 6) : bI x j = tB x j := by
  obtain ⟨m, rfl⟩ := Int.eq_ofNat_of_zero_le h0
  exact bits_eq ⟨m, by omega⟩ ⟨j, hj⟩
theorem net_eq (l : List Int) : netI l = netS l := by
  by_cases h : 1 ≤ l.length ∧ l.length ≤ 6
  · have hp : (2 : Int) ^ l.length ≤ 64 := by rw [← shl_one h.2]; exact shl_le l.length h.2
    rw [Bool.eq_iff_iff]
    simp only [netI, netS, rowI, pairS, decide_eq_true h.1, decide_eq_true h.2, Bool.true_and, Bool.and_eq_true, allFrom_iff, inR, decide_eq_true_eq, Bool.not_eq_true', Bool.and_eq_false_iff, decide_eq_false_iff_not, Nat.zero_le, true_implies, Nat.zero_add]
    constructor
    · intro H
      have R : ∀ j, j < l.length → 0 ≤ rd l j ∧ rd l j < 2 ^ l.length := fun j hj => (H j hj).1.1
      refine ⟨R, fun i hi j hj => ?_⟩
      have a := H i hi
      rw [← bI_tB (R i hi).1 (by have := (R i hi).2; omega) (by omega), ← bI_tB (R j hj).1 (by have := (R j hj).2; omega) (by omega)]
      refine ⟨a.2 j hj, ?_⟩
      by_cases e : j = i
      · subst e; exact .inr (by simpa using a.1.2)
      · exact .inl e
    · rintro ⟨R, H⟩ i hi
      refine ⟨⟨R i hi, ?_⟩, fun k hk => ?_⟩
      · have a := (H i hi i hi).2
        rw [bI_tB (R i hi).1 (by have := (R i hi).2; omega) (by omega)]
        rcases a with a | a
        · exact absurd rfl a
        · simpa using a
      · rw [bI_tB (R i hi).1 (by have := (R i hi).2; omega) (by omega), bI_tB (R k hk).1 (by have := (R k hk).2; omega) (by omega)]
        exact (H i hi k hk).1
  · have e1 : netI l = false := by
      cases h1 : decide (1 ≤ l.length) <;> cases h2 : decide (l.length ≤ 6) <;> simp only [netI, h1, h2, Bool.false_and, Bool.and_false]
      exact absurd ⟨of_decide_eq_true h1, of_decide_eq_true h2⟩ h
    have e2 : netS l = false := by
      cases h1 : decide (1 ≤ l.length) <;> cases h2 : decide (l.length ≤ 6) <;> simp only [netS, h1, h2, Bool.false_and, Bool.and_false]
      exact absurd ⟨of_decide_eq_true h1, of_decide_eq_true h2⟩ h
    rw [e1, e2]
def stB (kinds : Int) (l : List Int) : Bool := allFrom (fun i => decide (0 ≤ rd l i) && decide (rd l i < kinds)) 0 l.length && (decide (3 ≤ kinds) && decide (kinds ≤ 5) && (decide (1 ≤ l.length) && decide (l.length ≤ 6)))
theorem ite_self_bool (b c : Bool) : (if b = true then c else false) = (b && c) := by cases b <;> rfl
theorem impl_state_ev (kinds : Int) (l : List Int) (hl : l.length ≤ 4611686018427387904) : Ev (fun k => impl_StateOk.f k kinds l) (stB kinds l) := by
  unfold stB
  rw [← ite_self_bool]
  refine all_loop (fun i => decide (0 ≤ rd l i) && decide (rd l i < kinds)) (fun k n => impl_StateOk.l0 k kinds l l (l.length : Int) (n : Int)) _ false l.length ?_ ?_ ?_ l.length 0 (by omega)
  · refine ev_ret (fun k => ?_)
    simp only [impl_StateOk.l0]
    rw [if_neg (by omega)]
    by_cases h1 : kinds ≥ 3
    · by_cases h2 : kinds ≤ 5
      · by_cases h3 : (l.length : Int) ≥ 1
        · rw [if_pos h1, if_pos h2, if_pos h3, decide_eq_true (show 3 ≤ kinds from h1), decide_eq_true h2, decide_eq_true (show 1 ≤ l.length by omega), decide_eq_decide.2 (show (l.length : Int) ≤ 6 ↔ l.length ≤ 6 by omega)]; rfl
        · rw [if_pos h1, if_pos h2, if_neg h3, decide_eq_false (show ¬ 1 ≤ l.length by omega), Bool.false_and, Bool.and_false]
      · rw [if_pos h1, if_neg h2, decide_eq_false h2, Bool.and_false, Bool.false_and]
    · rw [if_neg h1, decide_eq_false (show ¬ 3 ≤ kinds from h1), Bool.false_and, Bool.false_and]
  · intro n hn hp q hq
    simp only [Bool.and_eq_true, decide_eq_true_eq] at hp
    refine ev_eq _ (fun k => ?_) hq
    simp only [impl_StateOk.l0]
    rw [if_pos (by omega), if_pos (by omega), if_pos (by omega), if_neg (by omega), if_neg (by omega), w64 (by omega) (by omega)]
    rfl
  · intro n hn hp
    simp only [Bool.and_eq_false_iff, decide_eq_false_iff_not] at hp
    refine ev_ret (fun k => ?_)
    simp only [impl_StateOk.l0]
    rw [if_pos (by omega), if_pos (by omega), if_pos (by omega)]
    by_cases h : rd l n < 0
    · rw [if_pos h]
    · rw [if_neg h, if_pos (by omega)]
theorem spec_state_ev (kinds : Int) (l : List Int) (hl : l.length ≤ 4611686018427387904) : Ev (fun k => spec_StateOk.f k kinds l) (stB kinds l) := by
  unfold stB
  rw [← ite_self_bool]
  refine all_loop (fun i => decide (0 ≤ rd l i) && decide (rd l i < kinds)) (fun k n => spec_StateOk.l0 k kinds l (n : Int)) _ false l.length ?_ ?_ ?_ l.length 0 (by omega)
  · refine ev_ret (fun k => ?_)
    simp only [spec_StateOk.l0, l1In_eq, Option.bind_some]
    rw [if_neg (by omega)]
    have e : (decide ((1:Int) ≤ l.length) && decide ((l.length : Int) ≤ 6)) = (decide (1 ≤ l.length) && decide (l.length ≤ 6)) := by
      rw [decide_eq_decide.2 (show (1:Int) ≤ l.length ↔ 1 ≤ l.length by omega), decide_eq_decide.2 (show (l.length : Int) ≤ 6 ↔ l.length ≤ 6 by omega)]
    rw [e]
    cases (decide (3 ≤ kinds) && decide (kinds ≤ 5)) <;> rfl
  · intro n hn hp q hq
    simp only [Bool.and_eq_true, decide_eq_true_eq] at hp
    refine ev_eq _ (fun k => ?_) hq
    simp only [spec_StateOk.l0]
    rw [if_pos (by omega), if_pos (by omega), if_neg (by omega), if_neg (by omega), w64 (by omega) (by omega)]
    rfl
  · intro n hn hp
    simp only [Bool.and_eq_false_iff, decide_eq_false_iff_not] at hp
    refine ev_ret (fun k => ?_)
    simp only [spec_StateOk.l0]
    rw [if_pos (by omega), if_pos (by omega)]
    by_cases h : rd l n < 0
    · rw [if_pos h]
    · rw [if_neg h, if_pos (by omega)]
def askB (net : List Int) (kinds : Int) (st : List Int) : Bool := netI net && (stB kinds st && decide (net.length = st.length))
theorem ev_if {α : Type} {b : Bool} {f g : Nat → Option α} {r : α} (h1 : b = true → Ev f r) (h2 : b = false → Ev g r) : Ev (fun k => if b = true then f k else g k) r := by
  cases b with
  | true => exact Ev.congr (fun k => if_pos rfl) (h1 rfl)
  | false => exact Ev.congr (fun k => if_neg (by decide)) (h2 rfl)
theorem impl_asked_ev (net : List Int) (kinds : Int) (st : List Int) (hl : st.length ≤ 4611686018427387904) : Ev (fun k => impl_asked.f k net kinds st) (askB net kinds st) := by
  unfold impl_asked.f
  refine Ev.bind (impl_net_ev net) (ev_if (fun h => Ev.bind (impl_state_ev kinds st hl) (ev_if (fun h2 => ?_) (fun h2 => ?_))) (fun h => ?_))
  · refine ev_const (fun k => ?_)
    simp only [askB, h, h2, Bool.true_and]
    rw [Bool.eq_iff_iff.2 (show ((net.length : Int) == (st.length : Int)) = true ↔ decide (net.length = st.length) = true by simp; omega)]
  · exact ev_const (fun k => by simp [askB, h2])
  · exact ev_const (fun k => by simp [askB, h])
theorem spec_l3Ok_ev (net : List Int) (kinds : Int) (st : List Int) (hl : st.length ≤ 4611686018427387904) : Ev (fun k => spec_l3Ok.f k net kinds st) (askB net kinds st) := by
  unfold spec_l3Ok.f
  refine Ev.bind (spec_net_ev net) (ev_if (fun h => Ev.bind (spec_state_ev kinds st hl) (ev_if (fun h2 => ?_) (fun h2 => ?_))) (fun h => ?_))
  · refine ev_const (fun k => ?_)
    rw [← net_eq] at h
    simp only [askB, h, h2, Bool.true_and]
    rw [Bool.eq_iff_iff.2 (show ((st.length : Int) == (net.length : Int)) = true ↔ decide (net.length = st.length) = true by simp; omega)]
  · exact ev_const (fun k => by simp [askB, h2])
  · rw [← net_eq] at h
    exact ev_const (fun k => by simp [askB, h])
end Go.Proofs.Ytnhgiincboocaaa.PFnDeskOkPure
