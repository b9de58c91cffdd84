import Derived.Test.YtnhgiincboocaaaKA
import Derived.Lib.Bytes
import Derived.Lib.Strings
import Derived.Lib.Join
namespace Go.Proofs.Ytnhgiincboocaaa.PFnDeskOkPure
open Go.RowKit Go.Proofs.Ytnhgiincboocaaa.PFnDeskOk Go.Proofs.YtnhgiincboocaaaW.PrintWords Go.Proofs.YtnhgiincboocaaaW.PrintLast Go.Proofs.YtnhgiincboocaaaW.PrintMore Go.Proofs.Ytnhgiincboocaaa.PFnDeskOkPure
set_option linter.unusedVariables false
def dg (n : Int) : UInt8 := UInt8.ofNat (48 + n.toNat)
theorem num_at (n : Int) (h0 : 0 ≤ n) (h1 : n < 10) : Ev (fun k => spec_l1Number.f k n) (mk [dg n]) := by
  refine ev_ret (fun k => ?_)
  obtain ⟨m, rfl⟩ := Int.eq_ofNat_of_zero_le h0
  simp only [spec_l1Number.f]
  rw [if_pos h1]
  have : ∀ m : Fin 10, strOfNums ([(wrap64 (48 + (mx (m.val : Int) 0))) % 256] : List Int) = mk [dg (m.val : Int)] := by decide +kernel
  exact congrArg some (this ⟨m, by omega⟩)
def rowW (net : List Int) (i : Nat) : Nat → Nat → List (List UInt8)
  | 0, _ => []
  | d + 1, j => if tB (rd net i) j = 0 then rowW net i d (j + 1) else [dg i, dg j] :: rowW net i d (j + 1)
def allW (net : List Int) : Nat → Nat → List (List UInt8)
  | 0, _ => []
  | d + 1, i => rowW net i (net.length - (i + 1)) (i + 1) ++ allW net d (i + 1)
def wires (net : List Int) : List (List UInt8) := allW net net.length 0
def joinW (l : List (List UInt8)) : List UInt8 := Lib.join l [44]
def body (net : List Int) (kinds : Int) (st : List Int) : List UInt8 :=
  [dg net.length, 32] ++ (if wires net = [] then [46] else joinW (wires net)) ++ [32, dg kinds, 32] ++ st.map dg
def textL (net : List Int) (kinds : Int) (st : List Int) : List UInt8 := if askB net kinds st = true then body net kinds st else []
theorem joinW_snoc (l : List (List UInt8)) (p : List UInt8) : joinW (l ++ [p]) = if l = [] then p else joinW l ++ [44] ++ p := by
  unfold joinW
  cases l with
  | nil => simp [Lib.join_one]
  | cons x r =>
    rw [if_neg (by simp), List.cons_append, Lib.join_cons, Lib.join_cons]
    simp [Lib.joinTail]
def Good2 (l : List (List UInt8)) : Prop := ∀ p ∈ l, p.length = 2
theorem joinW_nil {l : List (List UInt8)} (h : Good2 l) : joinW l = [] ↔ l = [] := by
  unfold joinW
  cases l with
  | nil => simp [Lib.join_nil]
  | cons x r =>
    have hx := h x List.mem_cons_self
    rw [Lib.join_cons]
    constructor
    · intro e
      have := congrArg List.length e
      rw [List.length_append, hx] at this
      simp at this
    · intro e; cases e
theorem joinW_len {l : List (List UInt8)} (h : Good2 l) : (joinW l).length ≤ 3 * l.length := by
  unfold joinW
  cases l with
  | nil => simp [Lib.join_nil]
  | cons x r =>
    have key : ∀ r : List (List UInt8), (∀ p ∈ r, p.length = 2) → (Lib.joinTail [44] r).length = 3 * r.length := by
      intro r
      induction r with
      | nil => intro _; rfl
      | cons y r ih =>
        intro hr
        have h1 := ih (fun p hp => hr p (List.mem_cons_of_mem _ hp))
        have h2 := hr y List.mem_cons_self
        simp only [Lib.joinTail, List.map_cons, List.flatten_cons, List.length_append, List.length_cons, List.length_nil] at h1 ⊢
        omega
    rw [Lib.join_cons, List.length_append, h x List.mem_cons_self, key r (fun p hp => h p (List.mem_cons_of_mem _ hp))]
    simp only [List.length_cons]
    omega
theorem rowW_good (net : List Int) (i : Nat) : ∀ d j, Good2 (rowW net i d j) ∧ (rowW net i d j).length ≤ d := by
  intro d
  induction d with
  | zero => intro j; exact ⟨fun p hp => by simp [rowW] at hp, by simp [rowW]⟩
  | succ d ih =>
    intro j
    obtain ⟨h1, h2⟩ := ih (j + 1)
    unfold rowW
    split
    · exact ⟨h1, by omega⟩
    · refine ⟨fun p hp => ?_, by simp; omega⟩
      rcases List.mem_cons.1 hp with rfl | hp
      · rfl
      · exact h1 p hp
theorem toList_eq (b : ByteArray) : b.toList = b.data.toList := by
  exact Lib.toList_data b
/-- What stands in a net that is one, and in a state of its. -/
theorem ask_facts {net : List Int} {kinds : Int} {st : List Int} (h : askB net kinds st = true) : net.length = st.length ∧ 1 ≤ st.length ∧ st.length ≤ 6 ∧ 3 ≤ kinds ∧ kinds ≤ 5 ∧ (∀ i : Nat, i < st.length → 0 ≤ rd st i ∧ rd st i < kinds) ∧ ∀ i : Nat, i < net.length → 0 ≤ rd net i ∧ rd net i < 64 := by
  simp only [askB, stB, Bool.and_eq_true, decide_eq_true_eq, allFrom_iff] at h
  obtain ⟨h1, ⟨h2, ⟨h3, h4⟩, h5, h6⟩, h7⟩ := h
  refine ⟨h7, h5, h6, h3, h4, fun i hi => h2 i (by omega) (by omega), fun i hi => ?_⟩
  simp only [netI, rowI, inR, Bool.and_eq_true, decide_eq_true_eq, allFrom_iff] at h1
  have := (h1.2 i (by omega) (by omega)).1.1
  have p : (2 : Int) ^ net.length ≤ 64 := by rw [← shl_one (show net.length ≤ 6 by omega)]; exact shl_le _ (by omega)
  omega
theorem app_mk (a b : List UInt8) : mk a ++ mk b = mk (a ++ b) := by
  apply ByteArray.ext
  simp [mk]
theorem lit_mk (c : UInt8) : (⟨#[c]⟩ : ByteArray) = mk [c] := rfl
theorem emp_mk : (⟨#[]⟩ : ByteArray) = mk [] := rfl
theorem tB_dec : ∀ x : Fin 64, ∀ j : Fin 6, tB (x.val : Int) (j.val : Int) = 0 ∨ tB (x.val : Int) (j.val : Int) = 1 := by decide +kernel
theorem tB_two {x : Int} {j : Nat} (h0 : 0 ≤ x) (h1 : x < 64) (hj : j < 6) : tB x j = 0 ∨ tB x j = 1 := by
  obtain ⟨m, rfl⟩ := Int.eq_ofNat_of_zero_le h0
  exact tB_dec ⟨m, by omega⟩ ⟨j, hj⟩
def fin (l : List ByteArray) : List ByteArray := if l = [] then [mk [46]] else l
theorem rd_drop (l : List Int) (n : Nat) (h : n < l.length) : l.drop n = rd l n :: l.drop (n + 1) := by
  rw [List.drop_eq_getElem_cons h, rd_nat, List.getD_eq_getElem?_getD, List.getElem?_eq_getElem h]
  rfl
theorem allW_good (net : List Int) : ∀ d i, Good2 (allW net d i) ∧ (i + d = net.length → (allW net d i).length ≤ net.length * d) := by
  intro d
  induction d with
  | zero => intro i; exact ⟨fun p hp => by simp [allW] at hp, fun _ => by simp [allW]⟩
  | succ d ih =>
    intro i
    obtain ⟨h1, h2⟩ := ih (i + 1)
    obtain ⟨g1, g2⟩ := rowW_good net i (net.length - (i + 1)) (i + 1)
    refine ⟨fun p hp => ?_, fun h => ?_⟩
    · rw [allW] at hp
      rcases List.mem_append.1 hp with hp | hp
      · exact g1 p hp
      · exact h1 p hp
    · have := h2 (by omega)
      rw [allW, List.length_append, Nat.mul_succ]
      omega
theorem wires_facts (net : List Int) (h6 : net.length ≤ 6) : Good2 (wires net) ∧ (wires net).length ≤ 36 ∧ (joinW (wires net)).length ≤ 108 := by
  obtain ⟨h1, h2⟩ := allW_good net net.length 0
  have h3 := h2 (by omega)
  have h4 : net.length * net.length ≤ 6 * 6 := Nat.mul_le_mul h6 h6
  have h5 := joinW_len h1
  unfold wires
  exact ⟨h1, by omega, by omega⟩
set_option linter.unusedSimpArgs false
theorem stepS0 (m : Nat) (h : m < 4194304) : wrap64 ((m : Int) + 1) = ((m + 1 : Nat) : Int) := (w64 (by omega) (by omega)).trans (by omega)
theorem mk_toList (l : List UInt8) : (mk l).toList = l := by rw [toList_eq, mk_list]
theorem spec_row (net : List Int) (kinds : Int) (st : List Int) (ss : List UInt8) (i : Nat) (hi : i < net.length) (h6 : net.length ≤ 6) (hx : 0 ≤ rd net i ∧ rd net i < 64) (r : ByteArray) : ∀ (d j : Nat) (ws : List (List UInt8)), j + d = net.length → Good2 ws → ws.length + d ≤ 1000 → Ev (fun k => spec_PlaceText.l0 k (mk (joinW (ws ++ rowW net i d j))) (mk ss) ((i + 1 : Nat) : Int) net kinds st) r →
    Ev (fun k => spec_PlaceText.l1 k (mk (joinW ws)) (mk ss) (i : Int) (j : Int) net kinds st) r := by
  intro d
  induction d with
  | zero =>
    intro j ws h1 hg h2 h
    have e1 : ws ++ rowW net i 0 j = ws := by simp [rowW]
    rw [e1] at h
    refine ev_eq _ (fun k => ?_) h
    simp only [spec_PlaceText.l1]
    rw [if_neg (by omega), w64 (by omega) (by omega)]
    rfl
  | succ d ih =>
    intro j ws h1 hg h2 h
    rcases tB_two hx.1 hx.2 (show j < 6 by omega) with e | e
    · have e1 : rowW net i (d + 1) j = rowW net i d (j + 1) := by rw [rowW, if_pos e]
      rw [e1] at h
      have eb : Int.tmod (shr .i64 (rd net i) (j : Int)) 2 = 0 := e
      refine ev_eq _ (fun k => ?_) (ih (j + 1) ws (by omega) hg (by omega) h)
      simp only [spec_PlaceText.l1]
      rw [if_pos (by omega), if_pos (by omega), if_pos (by omega), if_pos (by omega), if_pos eb, w64 (by omega) (by omega)]
      rfl
    · have e1 : rowW net i (d + 1) j = [dg i, dg j] :: rowW net i d (j + 1) := by rw [rowW, if_neg (by rw [e]; decide)]
      rw [e1, List.append_cons] at h
      have eb : ¬ Int.tmod (shr .i64 (rd net i) (j : Int)) 2 = 0 := by
        intro h0
        have : (1 : Int) = 0 := e.symm.trans h0
        omega
      have hg' : Good2 (ws ++ [[dg i, dg j]]) := by
        intro p hp
        rcases List.mem_append.1 hp with hp | hp
        · exact hg p hp
        · rw [List.mem_singleton.1 hp]; rfl
      have h' := ih (j + 1) (ws ++ [[dg i, dg j]]) (by omega) hg' (by rw [List.length_append, List.length_singleton]; omega) h
      rw [joinW_snoc] at h'
      have hjl := joinW_len hg
      have e2 : wrap64 ((j : Int) + 1) = ((j + 1 : Nat) : Int) := stepS0 j (by omega)
      have p1 : (j : Int) < (net.length : Int) := by omega
      have p2 : (0 : Int) ≤ (i : Int) := by omega
      have p3 : (i : Int) < (net.length : Int) := by omega
      have p4 : (0 : Int) ≤ (j : Int) := by omega
      by_cases hw : ws = []
      · subst hw
        rw [if_pos rfl] at h'
        refine ev_eq ?f1 (fun k => ?h1) ?g1
        case h1 =>
          simp only [spec_PlaceText.l1]
          rw [if_pos p1, if_pos p2, if_pos p3, if_pos p4, if_neg eb, if_pos (by rw [mk_toList]; rfl)]
        case g1 =>
          refine Ev.bind (num_at (i : Int) (by omega) (by omega)) (Ev.congr (fun k => if_pos (by simp only [mk_size, List.length_cons, List.length_nil]; omega)) (Ev.bind (num_at (j : Int) (by omega) (by omega)) (Ev.congr (fun k => if_pos (by simp only [app_mk, mk_size, List.length_append, List.length_cons, List.length_nil]; omega)) ?_)))
          rw [app_mk, app_mk, e2]
          exact h'
      · rw [if_neg hw] at h'
        refine ev_eq ?f2 (fun k => ?h2) ?g2
        case h2 =>
          simp only [spec_PlaceText.l1]
          rw [if_pos p1, if_pos p2, if_pos p3, if_pos p4, if_neg eb, if_neg (by rw [mk_toList]; exact fun h0 => hw ((joinW_nil hg).1 h0)), if_pos (by rw [mk_size]; omega)]
        case g2 =>
          refine Ev.bind (num_at (i : Int) (by omega) (by omega)) (Ev.congr (fun k => if_pos (by simp only [lit_mk, app_mk, mk_size, List.length_append, List.length_cons, List.length_nil]; omega)) (Ev.bind (num_at (j : Int) (by omega) (by omega)) (Ev.congr (fun k => if_pos (by simp only [lit_mk, app_mk, mk_size, List.length_append, List.length_cons, List.length_nil]; omega)) ?_)))
          rw [lit_mk, app_mk, app_mk, app_mk, e2]
          have e3 : joinW ws ++ [44] ++ [dg (i : Int)] ++ [dg (j : Int)] = joinW ws ++ [44] ++ [dg i, dg j] := by simp
          rw [e3]
          exact h'
def mid (ws : List (List UInt8)) : List UInt8 := if ws = [] then [46] else joinW ws
theorem spec_all (net : List Int) (kinds : Int) (st : List Int) (hn : net.length = st.length) (h6 : net.length ≤ 6) (hk0 : 0 ≤ kinds) (hk : kinds < 10) (hs : ∀ i : Nat, i < st.length → 0 ≤ rd st i ∧ rd st i < 10) (hx : ∀ i : Nat, i < net.length → 0 ≤ rd net i ∧ rd net i < 64) : ∀ (d i : Nat) (ws : List (List UInt8)) (ss : List UInt8), i + d = net.length → Good2 ws → ws.length + 6 * d ≤ 900 → ss.length + d ≤ 2000 →
    Ev (fun k => spec_PlaceText.l0 k (mk (joinW ws)) (mk ss) (i : Int) net kinds st) (mk ([dg net.length, 32] ++ mid (ws ++ allW net d i) ++ [32, dg kinds, 32] ++ (ss ++ (st.drop i).map dg))) := by
  intro d
  induction d with
  | zero =>
    intro i ws ss h1 hg h2 h3
    have e1 : ws ++ allW net 0 i = ws := by simp [allW]
    have hjl := joinW_len hg
    have p1 : ¬ (i : Int) < (net.length : Int) := by omega
    rw [e1, List.drop_eq_nil_of_le (by omega)]
    by_cases hw : ws = []
    · subst hw
      refine ev_eq ?f3 (fun k => ?h3) ?g3
      case h3 =>
        simp only [spec_PlaceText.l0]
        rw [if_neg p1, if_pos (by rw [mk_toList]; rfl)]
      case g3 =>
        refine Ev.bind (num_at (net.length : Int) (by omega) (by omega)) ?_
        simp only [lit_mk, app_mk]
        refine Ev.congr (fun k => if_pos (by simp only [mk_size, List.length_append, List.length_cons, List.length_nil]; omega)) (Ev.congr (fun k => if_pos (by simp only [mk_size, List.length_append, List.length_cons, List.length_nil]; omega)) (Ev.congr (fun k => if_pos (by simp only [mk_size, List.length_append, List.length_cons, List.length_nil]; omega)) (Ev.bind (num_at kinds hk0 hk) ?_)))
        simp only [app_mk]
        refine Ev.congr (fun k => if_pos (by simp only [mk_size, List.length_append, List.length_cons, List.length_nil]; omega)) (Ev.congr (fun k => if_pos (by simp only [mk_size, List.length_append, List.length_cons, List.length_nil]; omega)) (Ev.congr (fun k => if_pos (by simp only [mk_size, List.length_append, List.length_cons, List.length_nil]; omega)) (ev_const (fun k => ?_))))
        simp [mid]
    · refine ev_eq ?f4 (fun k => ?h4) ?g4
      case h4 =>
        simp only [spec_PlaceText.l0]
        rw [if_neg p1, if_neg (by rw [mk_toList]; exact fun h0 => hw ((joinW_nil hg).1 h0))]
      case g4 =>
        refine Ev.bind (num_at (net.length : Int) (by omega) (by omega)) ?_
        simp only [lit_mk, app_mk]
        refine Ev.congr (fun k => if_pos (by simp only [mk_size, List.length_append, List.length_cons, List.length_nil]; omega)) (Ev.congr (fun k => if_pos (by simp only [mk_size, List.length_append, List.length_cons, List.length_nil]; omega)) (Ev.congr (fun k => if_pos (by simp only [mk_size, List.length_append, List.length_cons, List.length_nil]; omega)) (Ev.bind (num_at kinds hk0 hk) ?_)))
        simp only [app_mk]
        refine Ev.congr (fun k => if_pos (by simp only [mk_size, List.length_append, List.length_cons, List.length_nil]; omega)) (Ev.congr (fun k => if_pos (by simp only [mk_size, List.length_append, List.length_cons, List.length_nil]; omega)) (Ev.congr (fun k => if_pos (by simp only [mk_size, List.length_append, List.length_cons, List.length_nil]; omega)) (ev_const (fun k => ?_))))
        simp [mid, hw]
  | succ d ih =>
    intro i ws ss h1 hg h2 h3
    obtain ⟨g1, g2⟩ := rowW_good net i (net.length - (i + 1)) (i + 1)
    have hg' : Good2 (ws ++ rowW net i (net.length - (i + 1)) (i + 1)) := by
      intro p hp
      rcases List.mem_append.1 hp with hp | hp
      · exact hg p hp
      · exact g1 p hp
    have p1 : (i : Int) < (net.length : Int) := by omega
    have p2 : (0 : Int) ≤ (i : Int) := by omega
    have p3 : (i : Int) < (st.length : Int) := by omega
    have p4 : (mk ss).size + (mk [dg (rd st i)]).size ≤ 9223372036854775807 := by rw [mk_size, mk_size, List.length_singleton]; omega
    obtain ⟨ha, hb⟩ := hs i (by omega)
    have h := ih (i + 1) (ws ++ rowW net i (net.length - (i + 1)) (i + 1)) (ss ++ [dg (rd st i)]) (by omega) hg' (by rw [List.length_append]; omega) (by rw [List.length_append, List.length_singleton]; omega)
    have e1 : ws ++ allW net (d + 1) i = (ws ++ rowW net i (net.length - (i + 1)) (i + 1)) ++ allW net d (i + 1) := by rw [allW, List.append_assoc]
    have e2 : ss ++ (st.drop i).map dg = ss ++ [dg (rd st i)] ++ (st.drop (i + 1)).map dg := by rw [rd_drop st i (by omega)]; simp
    rw [e1, e2]
    have h' := spec_row net kinds st (ss ++ [dg (rd st i)]) i (by omega) h6 (hx i (by omega)) _ (net.length - (i + 1)) (i + 1) ws (by omega) hg (by omega) h
    have e3 : wrap64 ((i : Int) + 1) = ((i + 1 : Nat) : Int) := stepS0 i (by omega)
    refine ev_eq ?f5 (fun k => ?h5) ?g5
    case h5 =>
      simp only [spec_PlaceText.l0]
      rw [if_pos p1, if_pos p2, if_pos p3]
    case g5 =>
      refine Ev.bind (num_at (rd st i) ha hb) (Ev.congr (fun k => if_pos p4) ?_)
      rw [app_mk, e3]
      exact h'
theorem spec_text_ev (net : List Int) (kinds : Int) (st : List Int) (hl : st.length ≤ 4611686018427387904) : Ev (fun k => spec_PlaceText.f k net kinds st) (mk (textL net kinds st)) := by
  unfold spec_PlaceText.f spec_PlaceOk.f textL
  refine Ev.bind (Ev.bind (spec_l3Ok_ev net kinds st hl) (Ev.now _)) (ev_if (fun h => ?_) (fun h => ?_))
  · rw [if_pos h]
    obtain ⟨f1, f2, f3, f4, f5, f6, f7⟩ := ask_facts h
    have h := spec_all net kinds st f1 (by omega) (by omega) (by omega) (fun i hi => ⟨(f6 i hi).1, by have := (f6 i hi).2; omega⟩) f7 net.length 0 [] [] (by omega) (fun p hp => by simp at hp) (by simp; omega) (by simp; omega)
    exact h
  · rw [if_neg (by rw [h]; decide)]
    exact Ev.now _
end Go.Proofs.Ytnhgiincboocaaa.PFnDeskOkPure
