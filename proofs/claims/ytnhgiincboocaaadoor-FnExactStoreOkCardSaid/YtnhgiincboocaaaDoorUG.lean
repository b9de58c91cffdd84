import Derived.Test.YtnhgiincboocaaaDoorUE
import Derived.Test.YtnhgiincboocaaaDoorUB
namespace Go.Proofs.YtnhgiincboocaaaDoor.PFnExactStoreOkPure
open Go.RowKit Go.Proofs.YtnhgiincboocaaaDoor.PFnExactStoreOk Go.Proofs.YtnhgiincboocaaaDoorW.PrintWords Go.Proofs.YtnhgiincboocaaaDoorW.PrintLast Go.Proofs.YtnhgiincboocaaaDoorW.PrintMore Go.Proofs.YtnhgiincboocaaaDoor.PFnExactStoreOkPure
set_option linter.unusedVariables false
def st48 (b : UInt8) : Int := (b.toNat : Int) - 48
theorem w48 (b : UInt8) : wrap64 (wrap64 (b.toNat : Int) - 48) = st48 b := by
  have := UInt8.toNat_lt b
  rw [w64 (x := (b.toNat : Int)) (by omega) (by omega), w64 (by omega) (by omega)]
  rfl
theorem bt_mk (w : List UInt8) (n : Nat) (h : n < w.length) : bt (mk w) (n : Int) = ((w[n]'h).toNat : Int) := by
  have e := bt_get (mk w) n (by rw [mk_list]; exact h)
  rw [e]
  simp [mk_list]
theorem q0 (a b c d : ByteArray) : rdOf ByteArray.empty [a, b, c, d] 0 = a := rfl
theorem q1 (a b c d : ByteArray) : rdOf ByteArray.empty [a, b, c, d] 1 = b := rfl
theorem q2 (a b c d : ByteArray) : rdOf ByteArray.empty [a, b, c, d] 2 = c := rfl
theorem q3 (a b c d : ByteArray) : rdOf ByteArray.empty [a, b, c, d] 3 = d := rfl
theorem qlen (a b c d : ByteArray) : (([a, b, c, d] : List ByteArray).length : Int) = 4 := rfl
abbrev RP := List Int × Int × List Int × Bool
def zeroR : RP := ([], 0, [], false)
def finR (s : List UInt8) (net : List Int) (kinds : Int) (st : List Int) : RP := if textL net kinds st = s then (net, kinds, st, true) else zeroR
theorem spec_sts (s w0 w1 w2 w3 : List UInt8) (hl : w3.length ≤ 1048576) (net : List Int) (kinds : Int) : ∀ (d n : Nat) (acc : List Int), n + d = w3.length → acc.length = n →
    Ev (fun k => spec_ReadPlace.l1 k (mk s) [mk w0, mk w1, mk w2, mk w3] (n : Int) net kinds acc) (finR s net kinds (acc ++ (w3.drop n).map st48)) := by
  intro d
  induction d with
  | zero =>
    intro n acc h1 h2
    rw [List.drop_eq_nil_of_le (by omega), List.map_nil, List.append_nil]
    refine ev_eq ?f1 (fun k => ?h1) ?g1
    case h1 =>
      simp only [spec_ReadPlace.l1]
      rw [q3, qlen, if_pos (by decide), if_neg (by rw [mk_size]; omega)]
    case g1 =>
      refine Ev.bind (spec_text_ev net kinds acc (by omega)) (ev_const (fun k => ?_))
      rw [mk_toList, mk_toList]
      unfold finR
      split <;> rfl
  | succ d ih =>
    intro n acc h1 h2
    have hn : n < w3.length := by omega
    have h := ih (n + 1) (acc ++ [st48 w3[n]]) (by omega) (by rw [List.length_append, List.length_singleton]; omega)
    have e : acc ++ (w3.drop n).map st48 = acc ++ [st48 w3[n]] ++ (w3.drop (n + 1)).map st48 := by rw [List.drop_eq_getElem_cons hn, List.map_cons, List.append_cons]
    rw [e]
    have p1 : (n : Int) < ((mk w3).size : Int) := by rw [mk_size]; omega
    have p2 : (0 : Int) ≤ (n : Int) := by omega
    have p3 : acc.length < 17592186044416 := by omega
    refine ev_eq _ (fun k => ?_) h
    simp only [spec_ReadPlace.l1]
    rw [q3, qlen, if_pos (by decide), if_pos p1, if_pos p2, if_pos p3, bt_mk w3 n hn, w48, stepS0 n (by omega)]
theorem impl_sts (s w0 w1 w2 w3 : List UInt8) (hl : w3.length ≤ 1048576) (net : List Int) (kinds : Int) : ∀ (d n : Nat) (acc : List Int), n + d = w3.length → acc.length = n →
    Ev (fun k => impl_ReadPlace.l1 k (mk s) [mk w0, mk w1, mk w2, mk w3] ((mk w3).size : Int) (n : Int) net kinds acc) (finR s net kinds (acc ++ (w3.drop n).map st48)) := by
  intro d
  induction d with
  | zero =>
    intro n acc h1 h2
    rw [List.drop_eq_nil_of_le (by omega), List.map_nil, List.append_nil]
    refine ev_eq ?f1 (fun k => ?h1) ?g1
    case h1 =>
      simp only [impl_ReadPlace.l1]
      rw [if_neg (by rw [mk_size]; omega)]
    case g1 =>
      refine Ev.bind (impl_text_ev net kinds acc (by omega)) (ev_const (fun k => ?_))
      rw [mk_toList, mk_toList]
      unfold finR
      split <;> rfl
  | succ d ih =>
    intro n acc h1 h2
    have hn : n < w3.length := by omega
    have h := ih (n + 1) (acc ++ [st48 w3[n]]) (by omega) (by rw [List.length_append, List.length_singleton]; omega)
    have e : acc ++ (w3.drop n).map st48 = acc ++ [st48 w3[n]] ++ (w3.drop (n + 1)).map st48 := by rw [List.drop_eq_getElem_cons hn, List.map_cons, List.append_cons]
    rw [e]
    have p1 : (n : Int) < ((mk w3).size : Int) := by rw [mk_size]; omega
    have p2 : (0 : Int) ≤ (n : Int) := by omega
    have p3 : acc.length < 17592186044416 := by omega
    refine ev_eq _ (fun k => ?_) h
    simp only [impl_ReadPlace.l1]
    rw [q3, qlen, if_pos p1, if_pos (by decide), if_pos p2, if_pos p1, if_pos p3, bt_mk w3 n hn, w48, stepS0 n (by omega)]
def stepP (net : List Int) (a b : Int) : List Int := (net.set a.toNat (Go.bits .or .i64 (rd net a) (shl .i64 1 b))).set b.toNat (Go.bits .or .i64 (rd (net.set a.toNat (Go.bits .or .i64 (rd net a) (shl .i64 1 b))) b) (shl .i64 1 a))
theorem stepP_len (net : List Int) (a b : Int) : (stepP net a b).length = net.length := by simp [stepP]
def okP (n : Nat) (p : List UInt8) : Prop := p.length = 2 ∧ (0 ≤ st48 (p.getD 0 0) ∧ st48 (p.getD 0 0) < n) ∧ (0 ≤ st48 (p.getD 1 0) ∧ st48 (p.getD 1 0) < n)
instance (n : Nat) (p : List UInt8) : Decidable (okP n p) := by unfold okP; infer_instance
def pairsF : List (List UInt8) → List Int → Option (List Int)
  | [], net => some net
  | p :: ps, net => if okP net.length p then pairsF ps (stepP net (st48 (p.getD 0 0)) (st48 (p.getD 1 0))) else none
theorem pairsF_len : ∀ (ps : List (List UInt8)) (net net' : List Int), pairsF ps net = some net' → net'.length = net.length := by
  intro ps
  induction ps with
  | nil => intro net net' h; rw [pairsF] at h; injection h with h; rw [h]
  | cons p ps ih =>
    intro net net' h
    rw [pairsF] at h
    split at h
    · rw [ih _ _ h, stepP_len]
    · cases h
theorem rdOf_mk (pcs : List (List UInt8)) (i : Nat) (h : i < pcs.length) : rdOf ByteArray.empty (pcs.map mk) (i : Int) = mk pcs[i] := by
  simp [rdOf, h]
theorem two_of {p : List UInt8} (h : p.length = 2) : ∃ x y, p = [x, y] := by
  match p, h with
  | [x, y], _ => exact ⟨x, y, rfl⟩
theorem bt0 (x y : UInt8) : bt (mk [x, y]) 0 = (x.toNat : Int) := rfl
theorem bt1 (x y : UInt8) : bt (mk [x, y]) 1 = (y.toNat : Int) := rfl
end Go.Proofs.YtnhgiincboocaaaDoor.PFnExactStoreOkPure
