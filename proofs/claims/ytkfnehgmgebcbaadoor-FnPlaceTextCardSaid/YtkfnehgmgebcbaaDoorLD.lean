import Derived.Test.YtkfnehgmgebcbaaDoorLC
import Derived.Lib.Bytes
import Derived.Lib.Strings
namespace Go.Proofs.YtkfnehgmgebcbaaDoor.PFnPlaceTextPure
open Go.RowKit Go.Proofs.YtkfnehgmgebcbaaDoor.PFnPlaceText Go.Proofs.YtkfnehgmgebcbaaDoorW.PrintWords Go.Proofs.YtkfnehgmgebcbaaDoorW.PrintLast Go.Proofs.YtkfnehgmgebcbaaDoorW.PrintMore Go.Proofs.YtkfnehgmgebcbaaDoor.PFnPlaceTextPure
set_option linter.unusedVariables false
def dg (n : Int) : UInt8 := UInt8.ofNat (48 + n.toNat)
theorem num_at (n : Int) (h0 : 0 ≤ n) (h1 : n < 10) : Ev (fun k => spec_l1Number.f k n) (mk [dg n]) := by
  refine ev_ret (fun k => ?_)
  obtain ⟨m, rfl⟩ := Int.eq_ofNat_of_zero_le h0
  simp only [spec_l1Number.f]
  rw [if_pos h1]
  have : ∀ m : Fin 10, strOfNums ([(wrap64 (48 + (mx (m.val : Int) 0))) % 256] : List Int) = mk [dg (m.val : Int)] := by decide +kernel
  exact congrArg some (this ⟨m, by omega⟩)
theorem itoa_at (n : Int) (h0 : 0 ≤ n) (h1 : n < 10) : strconv_Itoa.f n = some (mk [dg n]) := by
  unfold strconv_Itoa.f YtkfnehgmgebcbaaDoorLibS.itoaF
  rw [if_pos ⟨h0, by omega⟩, Lib.decDigits, dif_pos (by omega)]
  rfl
def rowW (net : List Int) (i : Nat) : Nat → Nat → List (List UInt8)
  | 0, _ => []
  | d + 1, j => if tB (rd net i) j = 0 then rowW net i d (j + 1) else [dg i, dg j] :: rowW net i d (j + 1)
def allW (net : List Int) : Nat → Nat → List (List UInt8)
  | 0, _ => []
  | d + 1, i => rowW net i (net.length - (i + 1)) (i + 1) ++ allW net d (i + 1)
def wires (net : List Int) : List (List UInt8) := allW net net.length 0
def joinW (l : List (List UInt8)) : List UInt8 := Lib.join l [44]
def body (net : List Int) (kinds : Int) (st : List Int) : List UInt8 :=
  [dg net.length, 32] ++ (if wires net = [] then [46] else joinW (wires net)) ++ [32, dg kinds, 32] ++ st.map dg
def textL (net : List Int) (kinds : Int) (st : List Int) : List UInt8 := if askB net kinds st = true then body net kinds st else []
theorem joinW_snoc (l : List (List UInt8)) (p : List UInt8) : joinW (l ++ [p]) = if l = [] then p else joinW l ++ [44] ++ p := by
  unfold joinW
  cases l with
  | nil => simp [Lib.join_one]
  | cons x r =>
    rw [if_neg (by simp), List.cons_append, Lib.join_cons, Lib.join_cons]
    simp [Lib.joinTail]
def Good2 (l : List (List UInt8)) : Prop := ∀ p ∈ l, p.length = 2
theorem joinW_nil {l : List (List UInt8)} (h : Good2 l) : joinW l = [] ↔ l = [] := by
  unfold joinW
  cases l with
  | nil => simp [Lib.join_nil]
  | cons x r =>
    have hx := h x List.mem_cons_self
    rw [Lib.join_cons]
    constructor
    · intro e
      have := congrArg List.length e
      rw [List.length_append, hx] at this
      simp at this
    · intro e; cases e
theorem joinW_len {l : List (List UInt8)} (h : Good2 l) : (joinW l).length ≤ 3 * l.length := by
  unfold joinW
  cases l with
  | nil => simp [Lib.join_nil]
  | cons x r =>
    have key : ∀ r : List (List UInt8), (∀ p ∈ r, p.length = 2) → (Lib.joinTail [44] r).length = 3 * r.length := by
      intro r
      induction r with
      | nil => intro _; rfl
      | cons y r ih =>
        intro hr
        have h1 := ih (fun p hp => hr p (List.mem_cons_of_mem _ hp))
        have h2 := hr y List.mem_cons_self
        simp only [Lib.joinTail, List.map_cons, List.flatten_cons, List.length_append, List.length_cons, List.length_nil] at h1 ⊢
        omega
    rw [Lib.join_cons, List.length_append, h x List.mem_cons_self, key r (fun p hp => h p (List.mem_cons_of_mem _ hp))]
    simp only [List.length_cons]
    omega
theorem rowW_good (net : List Int) (i : Nat) : ∀ d j, Good2 (rowW net i d j) ∧ (rowW net i d j).length ≤ d := by
  intro d
  induction d with
  | zero => intro j; exact ⟨fun p hp => by simp [rowW] at hp, by simp [rowW]⟩
  | succ d ih =>
    intro j
    obtain ⟨h1, h2⟩ := ih (j + 1)
    unfold rowW
    split
    · exact ⟨h1, by omega⟩
    · refine ⟨fun p hp => ?_, by simp; omega⟩
      rcases List.mem_cons.1 hp with rfl | hp
      · rfl
      · exact h1 p hp
theorem toList_eq (b : ByteArray) : b.toList = b.data.toList := by
  exact Lib.toList_data b
/-- What stands in a net that is one, and in a state of its. -/
theorem ask_facts {net : List Int} {kinds : Int} {st : List Int} (h : askB net kinds st = true) : net.length = st.length ∧ 1 ≤ st.length ∧ st.length ≤ 6 ∧ 3 ≤ kinds ∧ kinds ≤ 5 ∧ (∀ i : Nat, i < st.length → 0 ≤ rd st i ∧ rd st i < kinds) ∧ ∀ i : Nat, i < net.length → 0 ≤ rd net i ∧ rd net i < 64 := by
  simp only [askB, stB, Bool.and_eq_true, decide_eq_true_eq, allFrom_iff] at h
  obtain ⟨h1, ⟨h2, ⟨h3, h4⟩, h5, h6⟩, h7⟩ := h
  refine ⟨h7, h5, h6, h3, h4, fun i hi => h2 i (by omega) (by omega), fun i hi => ?_⟩
  simp only [netI, rowI, inR, Bool.and_eq_true, decide_eq_true_eq, allFrom_iff] at h1
  have := (h1.2 i (by omega) (by omega)).1.1
  have p : (2 : Int) ^ net.length ≤ 64 := by rw [← shl_one (show net.length ≤ 6 by omega)]; exact shl_le _ (by omega)
  omega
theorem app_mk (a b : List UInt8) : mk a ++ mk b = mk (a ++ b) := by
  apply ByteArray.ext
  simp [mk]
theorem lit_mk (c : UInt8) : (⟨#[c]⟩ : ByteArray) = mk [c] := rfl
theorem emp_mk : (⟨#[]⟩ : ByteArray) = mk [] := rfl
theorem tB_dec : ∀ x : Fin 64, ∀ j : Fin 6, tB (x.val : Int) (j.val : Int) = 0 ∨ tB (x.val : Int) (j.val : Int) = 1 := by decide +kernel
theorem tB_two {x : Int} {j : Nat} (h0 : 0 ≤ x) (h1 : x < 64) (hj : j < 6) : tB x j = 0 ∨ tB x j = 1 := by
  obtain ⟨m, rfl⟩ := Int.eq_ofNat_of_zero_le h0
  exact tB_dec ⟨m, by omega⟩ ⟨j, hj⟩
theorem impl_row (net : List Int) (kinds : Int) (st : List Int) (i : Nat) (hi : i < net.length) (h6 : net.length ≤ 6) (hx : 0 ≤ rd net i ∧ rd net i < 64) (r : ByteArray) : ∀ (d j : Nat) (acc : List ByteArray), j + d = net.length → acc.length + d ≤ 1000 → Ev (fun k => impl_PlaceText.l0 k (acc ++ (rowW net i d j).map mk) net (net.length : Int) ((i + 1 : Nat) : Int) net kinds st) r →
    Ev (fun k => impl_PlaceText.l1 k acc (i : Int) (rd net i) (j : Int) net (net.length : Int) (i : Int) net kinds st) r := by
  intro d
  induction d with
  | zero =>
    intro j acc h1 h2 h
    have e1 : acc ++ (rowW net i 0 j).map mk = acc := by simp [rowW]
    rw [e1] at h
    refine ev_eq _ (fun k => ?_) h
    simp only [impl_PlaceText.l1]
    rw [if_neg (by omega), w64 (by omega) (by omega)]
    rfl
  | succ d ih =>
    intro j acc h1 h2 h
    rcases tB_two hx.1 hx.2 (show j < 6 by omega) with e | e
    · have e1 : rowW net i (d + 1) j = rowW net i d (j + 1) := by rw [rowW, if_pos e]
      rw [e1] at h
      have eb : Go.bits .and .i64 (shr .i64 (rd net i) (j : Int)) 1 = 0 := (bI_tB hx.1 hx.2 (by omega)).trans e
      refine ev_eq _ (fun k => ?_) (ih (j + 1) acc (by omega) (by omega) h)
      simp only [impl_PlaceText.l1]
      rw [if_pos (by omega), if_pos (by omega), if_neg (by rw [eb]; decide), w64 (by omega) (by omega)]
      rfl
    · have e1 : rowW net i (d + 1) j = [dg i, dg j] :: rowW net i d (j + 1) := by rw [rowW, if_neg (by rw [e]; decide)]
      rw [e1, List.map_cons, List.append_cons] at h
      have eb : Go.bits .and .i64 (shr .i64 (rd net i) (j : Int)) 1 = 1 := (bI_tB hx.1 hx.2 (by omega)).trans e
      refine ev_eq _ (fun k => ?_) (ih (j + 1) (acc ++ [mk [dg i, dg j]]) (by omega) (by simp; omega) h)
      simp only [impl_PlaceText.l1]
      rw [if_pos (by omega), if_pos (by omega), if_pos eb, itoa_at (i : Int) (by omega) (by omega), Option.bind_some, itoa_at (j : Int) (by omega) (by omega), Option.bind_some, if_pos (by simp only [mk_size, List.length_cons, List.length_nil]; omega), if_pos (by omega), app_mk, w64 (by omega) (by omega)]
      rfl
def fin (l : List ByteArray) : List ByteArray := if l = [] then [mk [46]] else l
theorem impl_all (net : List Int) (kinds : Int) (st : List Int) (h6 : net.length ≤ 6) (hx : ∀ i : Nat, i < net.length → 0 ≤ rd net i ∧ rd net i < 64) (r : ByteArray) : ∀ (d i : Nat) (acc : List ByteArray), i + d = net.length → acc.length + 6 * d ≤ 900 → Ev (fun k => impl_PlaceText.j2 k (fin (acc ++ (allW net d i).map mk)) net kinds st) r →
    Ev (fun k => impl_PlaceText.l0 k acc net (net.length : Int) (i : Int) net kinds st) r := by
  intro d
  induction d with
  | zero =>
    intro i acc h1 h2 h
    have e1 : acc ++ (allW net 0 i).map mk = acc := by simp [allW]
    rw [e1] at h
    refine ev_eq _ (fun k => ?_) h
    simp only [impl_PlaceText.l0]
    rw [if_neg (by omega)]
    unfold fin
    cases acc with
    | nil => rw [if_pos rfl, if_pos (by simp), if_pos (by decide)]; rfl
    | cons a t => rw [if_neg (by rw [List.length_cons]; omega), if_neg (by simp)]
  | succ d ih =>
    intro i acc h1 h2 h
    have e1 : acc ++ (allW net (d + 1) i).map mk = (acc ++ (rowW net i (net.length - (i + 1)) (i + 1)).map mk) ++ (allW net d (i + 1)).map mk := by
      rw [allW, List.map_append, List.append_assoc]
    rw [e1] at h
    have hl := (rowW_good net i (net.length - (i + 1)) (i + 1)).2
    have h' := ih (i + 1) _ (by omega) (by rw [List.length_append, List.length_map]; omega) h
    refine ev_eq _ (fun k => ?_) (impl_row net kinds st i (by omega) h6 (hx i (by omega)) r (net.length - (i + 1)) (i + 1) acc (by omega) (by omega) h')
    simp only [impl_PlaceText.l0]
    rw [if_pos (by omega), if_pos (by omega), if_pos (by omega), w64 (by omega) (by omega)]
    rfl
theorem rd_drop (l : List Int) (n : Nat) (h : n < l.length) : l.drop n = rd l n :: l.drop (n + 1) := by
  rw [List.drop_eq_getElem_cons h, rd_nat, List.getD_eq_getElem?_getD, List.getElem?_eq_getElem h]
  rfl
theorem impl_states (st : List Int) (h6 : st.length ≤ 6) (hs : ∀ i : Nat, i < st.length → 0 ≤ rd st i ∧ rd st i < 10) : ∀ (d n : Nat) (acc : List UInt8), n + d = st.length → acc.length + d ≤ 2000 → Ev (fun k => impl_PlaceText.l2 k (mk acc) st (st.length : Int) (n : Int)) (mk (acc ++ (st.drop n).map dg)) := by
  intro d
  induction d with
  | zero =>
    intro n acc h1 h2
    refine ev_ret (fun k => ?_)
    simp only [impl_PlaceText.l2]
    rw [if_neg (by omega), List.drop_eq_nil_of_le (by omega)]
    simp
  | succ d ih =>
    intro n acc h1 h2
    obtain ⟨ha, hb⟩ := hs n (by omega)
    have h := ih (n + 1) (acc ++ [dg (rd st n)]) (by omega) (by simp; omega)
    have e : acc ++ (st.drop n).map dg = acc ++ [dg (rd st n)] ++ (st.drop (n + 1)).map dg := by rw [rd_drop st n (by omega)]; simp
    rw [e]
    refine ev_eq _ (fun k => ?_) h
    simp only [impl_PlaceText.l2]
    rw [if_pos (by omega), if_pos (by omega), if_pos (by omega), itoa_at _ ha hb, Option.bind_some, if_pos (by simp only [mk_size, List.length_cons, List.length_nil]; omega), app_mk, w64 (by omega) (by omega)]
    rfl
theorem join_at (ws : List (List UInt8)) (hl : (joinW ws).length ≤ 1000) (hw : ws.length ≤ 1000) : strings_Join.f (ws.map mk) (⟨#[44]⟩ : ByteArray) = some (mk (joinW ws)) := by
  have e : YtkfnehgmgebcbaaDoorLibS.joinL (ws.map mk) (⟨#[44]⟩ : ByteArray) = joinW ws := by
    unfold YtkfnehgmgebcbaaDoorLibS.joinL joinW
    have : (ws.map mk).map (·.data.toList) = ws := by
      rw [List.map_map]
      conv => rhs; rw [← List.map_id ws]
      exact List.map_congr_left (fun a _ => mk_list a)
    rw [this]
  unfold strings_Join.f YtkfnehgmgebcbaaDoorLibS.joinF
  rw [e, if_pos ⟨by omega, by rw [List.length_map]; omega⟩]
  rfl
theorem impl_j2 (net : List Int) (kinds : Int) (st : List Int) (hn : net.length ≤ 6) (hk0 : 0 ≤ kinds) (hk : kinds < 10) (h6 : st.length ≤ 6) (hs : ∀ i : Nat, i < st.length → 0 ≤ rd st i ∧ rd st i < 10) (ws : List (List UInt8)) (hl : (joinW ws).length ≤ 1000) (hw : ws.length ≤ 1000) :
    Ev (fun k => impl_PlaceText.j2 k (ws.map mk) net kinds st) (mk ([dg net.length, 32] ++ joinW ws ++ [32, dg kinds, 32] ++ st.map dg)) := by
  have h := impl_states st h6 hs st.length 0 ([dg net.length, 32] ++ joinW ws ++ [32, dg kinds, 32]) (by omega) (by simp; omega)
  rw [List.drop_zero] at h
  refine ev_eq _ (fun k => ?_) h
  simp only [impl_PlaceText.j2]
  rw [itoa_at (net.length : Int) (by omega) (by omega), Option.bind_some, if_pos (by simp [mk_size]), join_at ws hl hw, Option.bind_some]
  simp only [lit_mk, app_mk]
  rw [if_pos (by simp only [mk_size, List.length_append, List.length_cons, List.length_nil]; omega), if_pos (by simp only [mk_size, List.length_append, List.length_cons, List.length_nil]; omega), itoa_at kinds hk0 hk, Option.bind_some]
  simp only [app_mk]
  rw [if_pos (by simp only [mk_size, List.length_append, List.length_cons, List.length_nil]; omega), if_pos (by simp only [mk_size, List.length_append, List.length_cons, List.length_nil]; omega)]
  simp
theorem allW_good (net : List Int) : ∀ d i, Good2 (allW net d i) ∧ (i + d = net.length → (allW net d i).length ≤ net.length * d) := by
  intro d
  induction d with
  | zero => intro i; exact ⟨fun p hp => by simp [allW] at hp, fun _ => by simp [allW]⟩
  | succ d ih =>
    intro i
    obtain ⟨h1, h2⟩ := ih (i + 1)
    obtain ⟨g1, g2⟩ := rowW_good net i (net.length - (i + 1)) (i + 1)
    refine ⟨fun p hp => ?_, fun h => ?_⟩
    · rw [allW] at hp
      rcases List.mem_append.1 hp with hp | hp
      · exact g1 p hp
      · exact h1 p hp
    · have := h2 (by omega)
      rw [allW, List.length_append, Nat.mul_succ]
      omega
theorem wires_facts (net : List Int) (h6 : net.length ≤ 6) : Good2 (wires net) ∧ (wires net).length ≤ 36 ∧ (joinW (wires net)).length ≤ 108 := by
  obtain ⟨h1, h2⟩ := allW_good net net.length 0
  have h3 := h2 (by omega)
  have h4 : net.length * net.length ≤ 6 * 6 := Nat.mul_le_mul h6 h6
  have h5 := joinW_len h1
  unfold wires
  exact ⟨h1, by omega, by omega⟩
theorem impl_text_ev (net : List Int) (kinds : Int) (st : List Int) (hl : st.length ≤ 4611686018427387904) : Ev (fun k => impl_PlaceText.f k net kinds st) (mk (textL net kinds st)) := by
  unfold impl_PlaceText.f impl_PlaceOk.f textL
  refine Ev.bind (Ev.bind (impl_asked_ev net kinds st hl) (Ev.now _)) (ev_if (fun h => ?_) (fun h => ?_))
  · rw [if_pos h]
    obtain ⟨f1, f2, f3, f4, f5, f6, f7⟩ := ask_facts h
    obtain ⟨w1, w2, w3⟩ := wires_facts net (by omega)
    refine impl_all net kinds st (by omega) f7 _ net.length 0 [] (by omega) (by simp; omega) ?_
    have e : fin ([] ++ (allW net net.length 0).map mk) = (if wires net = [] then [[46]] else wires net).map mk := by
      unfold fin wires
      rw [List.nil_append]
      by_cases hw : allW net net.length 0 = []
      · rw [hw, if_pos (by simp), if_pos rfl]; rfl
      · rw [if_neg (by simpa using hw), if_neg hw]
    rw [e]
    have h2 := impl_j2 net kinds st (by omega) (by omega) (by omega) f3 (fun i hi => ⟨(f6 i hi).1, by have := (f6 i hi).2; omega⟩) (if wires net = [] then [[46]] else wires net) (by split <;> first | decide | omega) (by split <;> first | decide | omega)
    have e2 : joinW (if wires net = [] then [[46]] else wires net) = (if wires net = [] then [46] else joinW (wires net)) := by split <;> rfl
    rw [e2] at h2
    exact h2
  · rw [if_neg (by rw [h]; decide)]
    exact Ev.now _
end Go.Proofs.YtkfnehgmgebcbaaDoor.PFnPlaceTextPure
