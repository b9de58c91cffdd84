import Derived.Test.YtkfnehgmgebcbaaDoorLE
import Derived.Test.YtkfnehgmgebcbaaDoorLB
namespace Go.Proofs.YtkfnehgmgebcbaaDoor.PFnPlaceTextPure
open Go.RowKit Go.Proofs.YtkfnehgmgebcbaaDoor.PFnPlaceText Go.Proofs.YtkfnehgmgebcbaaDoorW.PrintWords Go.Proofs.YtkfnehgmgebcbaaDoorW.PrintLast Go.Proofs.YtkfnehgmgebcbaaDoorW.PrintMore Go.Proofs.YtkfnehgmgebcbaaDoor.PFnPlaceTextPure
set_option linter.unusedVariables false
def st48 (b : UInt8) : Int := (b.toNat : Int) - 48
theorem w48 (b : UInt8) : wrap64 (wrap64 (b.toNat : Int) - 48) = st48 b := by
  have := UInt8.toNat_lt b
  rw [w64 (x := (b.toNat : Int)) (by omega) (by omega), w64 (by omega) (by omega)]
  rfl
theorem bt_mk (w : List UInt8) (n : Nat) (h : n < w.length) : bt (mk w) (n : Int) = ((w[n]'h).toNat : Int) := by
  have e := bt_get (mk w) n (by rw [mk_list]; exact h)
  rw [e]
  simp [mk_list]
theorem q0 (a b c d : ByteArray) : rdOf ByteArray.empty [a, b, c, d] 0 = a := rfl
theorem q1 (a b c d : ByteArray) : rdOf ByteArray.empty [a, b, c, d] 1 = b := rfl
theorem q2 (a b c d : ByteArray) : rdOf ByteArray.empty [a, b, c, d] 2 = c := rfl
theorem q3 (a b c d : ByteArray) : rdOf ByteArray.empty [a, b, c, d] 3 = d := rfl
theorem qlen (a b c d : ByteArray) : (([a, b, c, d] : List ByteArray).length : Int) = 4 := rfl
abbrev RP := List Int × Int × List Int × Bool
def zeroR : RP := ([], 0, [], false)
def finR (s : List UInt8) (net : List Int) (kinds : Int) (st : List Int) : RP := if textL net kinds st = s then (net, kinds, st, true) else zeroR
theorem impl_sts (s w0 w1 w2 w3 : List UInt8) (hl : w3.length ≤ 1048576) (net : List Int) (kinds : Int) : ∀ (d n : Nat) (acc : List Int), n + d = w3.length → acc.length = n →
    Ev (fun k => impl_ReadPlace.l1 k (mk s) [mk w0, mk w1, mk w2, mk w3] ((mk w3).size : Int) (n : Int) net kinds acc) (finR s net kinds (acc ++ (w3.drop n).map st48)) := by
  intro d
  induction d with
  | zero =>
    intro n acc h1 h2
    rw [List.drop_eq_nil_of_le (by omega), List.map_nil, List.append_nil]
    refine ev_eq ?f1 (fun k => ?h1) ?g1
    case h1 =>
      simp only [impl_ReadPlace.l1]
      rw [if_neg (by rw [mk_size]; omega)]
    case g1 =>
      refine Ev.bind (impl_text_ev net kinds acc (by omega)) (ev_const (fun k => ?_))
      rw [mk_toList, mk_toList]
      unfold finR
      split <;> rfl
  | succ d ih =>
    intro n acc h1 h2
    have hn : n < w3.length := by omega
    have h := ih (n + 1) (acc ++ [st48 w3[n]]) (by omega) (by rw [List.length_append, List.length_singleton]; omega)
    have e : acc ++ (w3.drop n).map st48 = acc ++ [st48 w3[n]] ++ (w3.drop (n + 1)).map st48 := by rw [List.drop_eq_getElem_cons hn, List.map_cons, List.append_cons]
    rw [e]
    have p1 : (n : Int) < ((mk w3).size : Int) := by rw [mk_size]; omega
    have p2 : (0 : Int) ≤ (n : Int) := by omega
    have p3 : acc.length < 17592186044416 := by omega
    refine ev_eq _ (fun k => ?_) h
    simp only [impl_ReadPlace.l1]
    rw [q3, qlen, if_pos p1, if_pos (by decide), if_pos p2, if_pos p1, if_pos p3, bt_mk w3 n hn, w48, stepS0 n (by omega)]
def stepP (net : List Int) (a b : Int) : List Int := (net.set a.toNat (Go.bits .or .i64 (rd net a) (shl .i64 1 b))).set b.toNat (Go.bits .or .i64 (rd (net.set a.toNat (Go.bits .or .i64 (rd net a) (shl .i64 1 b))) b) (shl .i64 1 a))
theorem stepP_len (net : List Int) (a b : Int) : (stepP net a b).length = net.length := by simp [stepP]
def okP (n : Nat) (p : List UInt8) : Prop := p.length = 2 ∧ (0 ≤ st48 (p.getD 0 0) ∧ st48 (p.getD 0 0) < n) ∧ (0 ≤ st48 (p.getD 1 0) ∧ st48 (p.getD 1 0) < n)
instance (n : Nat) (p : List UInt8) : Decidable (okP n p) := by unfold okP; infer_instance
def pairsF : List (List UInt8) → List Int → Option (List Int)
  | [], net => some net
  | p :: ps, net => if okP net.length p then pairsF ps (stepP net (st48 (p.getD 0 0)) (st48 (p.getD 1 0))) else none
theorem pairsF_len : ∀ (ps : List (List UInt8)) (net net' : List Int), pairsF ps net = some net' → net'.length = net.length := by
  intro ps
  induction ps with
  | nil => intro net net' h; rw [pairsF] at h; injection h with h; rw [h]
  | cons p ps ih =>
    intro net net' h
    rw [pairsF] at h
    split at h
    · rw [ih _ _ h, stepP_len]
    · cases h
theorem rdOf_mk (pcs : List (List UInt8)) (i : Nat) (h : i < pcs.length) : rdOf ByteArray.empty (pcs.map mk) (i : Int) = mk pcs[i] := by
  simp [rdOf, h]
theorem two_of {p : List UInt8} (h : p.length = 2) : ∃ x y, p = [x, y] := by
  match p, h with
  | [x, y], _ => exact ⟨x, y, rfl⟩
theorem bt0 (x y : UInt8) : bt (mk [x, y]) 0 = (x.toNat : Int) := rfl
theorem bt1 (x y : UInt8) : bt (mk [x, y]) 1 = (y.toNat : Int) := rfl
theorem two_s (x y : UInt8) : ((mk [x, y]).size : Int) = 2 := rfl
theorem two_0 (x y : UInt8) : (0 : Int) < ((mk [x, y]).size : Int) := by rw [two_s]; decide
theorem two_1 (x y : UInt8) : (1 : Int) < ((mk [x, y]).size : Int) := by rw [two_s]; decide
theorem impl_pairs (s w0 w1 w2 w3 : List UInt8) (kinds : Int) (pcs : List (List UInt8)) (hp : pcs.length ≤ 1048577) (r : RP) : ∀ (d i : Nat) (net : List Int), i + d = pcs.length → net.length ≤ 6 → (pairsF (pcs.drop i) net = none → r = zeroR) → (∀ net', pairsF (pcs.drop i) net = some net' → Ev (fun k => impl_ReadPlace.j3 k (mk s) [mk w0, mk w1, mk w2, mk w3] net' kinds) r) →
    Ev (fun k => impl_ReadPlace.l0 k (mk s) [mk w0, mk w1, mk w2, mk w3] (net.length : Int) (pcs.map mk) ((pcs.map mk).length : Int) (i : Int) net kinds) r := by
  intro d
  induction d with
  | zero =>
    intro i net h1 h6 hz hs
    rw [List.drop_eq_nil_of_le (by omega)] at hz hs
    refine ev_eq _ (fun k => ?_) (hs net rfl)
    simp only [impl_ReadPlace.l0]
    rw [if_neg (by rw [List.length_map]; omega)]
  | succ d ih =>
    intro i net h1 h6 hz hs
    have hi : i < pcs.length := by omega
    rw [List.drop_eq_getElem_cons hi] at hz hs
    have p1 : (i : Int) < ((pcs.map mk).length : Int) := by rw [List.length_map]; omega
    have p2 : (0 : Int) ≤ (i : Int) := by omega
    have e3 := stepS0 i (by omega)
    by_cases hl : pcs[i].length = 2
    · obtain ⟨x, y, hxy⟩ := two_of hl
      rw [hxy] at hz hs
      have eA := w48 x
      have eB := w48 y
      by_cases hA : 0 ≤ st48 x ∧ st48 x < net.length
      · by_cases hB : 0 ≤ st48 y ∧ st48 y < net.length
        · have hok : okP net.length [x, y] := ⟨rfl, hA, hB⟩
          have hpf : pairsF ([x, y] :: pcs.drop (i + 1)) net = pairsF (pcs.drop (i + 1)) (stepP net (st48 x) (st48 y)) := by rw [pairsF, if_pos hok]; rfl
          rw [hpf] at hz hs
          have h := ih (i + 1) (stepP net (st48 x) (st48 y)) (by omega) (by rw [stepP_len]; exact h6) hz hs
          rw [stepP_len] at h
          refine ev_eq _ (fun k => ?_) h
          simp only [impl_ReadPlace.l0]
          rw [if_pos p1, if_pos p2, if_pos p1, rdOf_mk pcs i hi, hxy, if_pos (two_s x y), if_pos (two_0 x y), if_pos (two_1 x y), bt0, bt1, eA, eB, if_neg (by have := hA.1; omega), if_neg (by have := hA.2; omega), if_neg (by have := hB.1; omega), if_neg (by have := hB.2; omega), if_pos hA.1, if_pos hA.2, if_pos hB.1, Option.bind_some, if_pos hB.2, e3]
          rfl
        · have hok : ¬ okP net.length [x, y] := fun h => hB h.2.2
          rw [hz (by rw [pairsF, if_neg hok])]
          refine ev_ret (fun k => ?_)
          simp only [impl_ReadPlace.l0]
          rw [if_pos p1, if_pos p2, if_pos p1, rdOf_mk pcs i hi, hxy, if_pos (two_s x y), if_pos (two_0 x y), if_pos (two_1 x y), bt0, bt1, eA, eB, if_neg (by have := hA.1; omega), if_neg (by have := hA.2; omega)]
          by_cases hB0 : st48 y < 0
          · rw [if_pos hB0]; rfl
          · rw [if_neg hB0, if_pos (by omega)]; rfl
      · have hok : ¬ okP net.length [x, y] := fun h => hA h.2.1
        rw [hz (by rw [pairsF, if_neg hok])]
        refine ev_ret (fun k => ?_)
        simp only [impl_ReadPlace.l0]
        rw [if_pos p1, if_pos p2, if_pos p1, rdOf_mk pcs i hi, hxy, if_pos (two_s x y), if_pos (two_0 x y), if_pos (two_1 x y), bt0, bt1, eA, eB]
        by_cases hA0 : st48 x < 0
        · rw [if_pos hA0]; rfl
        · rw [if_neg hA0, if_pos (by omega)]; rfl
    · have hok : ¬ okP net.length pcs[i] := fun h => hl h.1
      rw [hz (by rw [pairsF, if_neg hok])]
      refine ev_ret (fun k => ?_)
      simp only [impl_ReadPlace.l0]
      rw [if_pos p1, if_pos p2, if_pos p1, rdOf_mk pcs i hi, if_neg (by rw [mk_size]; omega)]
      rfl
end Go.Proofs.YtkfnehgmgebcbaaDoor.PFnPlaceTextPure
