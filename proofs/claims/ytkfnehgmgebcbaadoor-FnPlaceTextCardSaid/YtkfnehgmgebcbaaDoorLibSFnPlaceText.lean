/- strings.Count and strings.Index at one byte, strconv.Itoa below 100, strings.Join: the shelf's contracts in the form in which the print tells its functions. -/
import Derived.Test.YtkfnehgmgebcbaaDoorVFnPlaceText
import Derived.Test.YtkfnehgmgebcbaaDoorShelfCut
namespace Go.Proofs.YtkfnehgmgebcbaaDoorLibS
open Go.RowKit Go.Proofs.YtkfnehgmgebcbaaDoorW.PrintWords
theorem one_byte {b : ByteArray} (h : b.size = 1) : b = ⟨#[b.data.toList.headD 0]⟩ := by
  obtain ⟨⟨l⟩⟩ := b
  match l, h with
  | [c], _ => rfl
def countF (s sep : ByteArray) : Option Int := if sep.size = 1 then some ((Lib.countByte s.data.toList (sep.data.toList.headD 0) : Nat) : Int) else none
theorem count_calls (s sep : ByteArray) (r : Int) (w : World) (h : countF s sep = some r) :
    Calls Tryd.prog 86 #[.string s, .string sep] w fun e w' => e = .returned (.int .i64 r) ∧ Drawn0 w w' := by
  unfold countF at h
  by_cases hs : sep.size = 1
  · rw [if_pos hs] at h
    injection h with h
    subst h
    have c := Tryd.strings_Count_one s (sep.data.toList.headD 0) w
    rw [← one_byte hs] at c
    refine c.mono ?_
    rintro e w' ⟨rfl, rfl⟩
    exact ⟨rfl, ⟨0, rfl⟩⟩
  · rw [if_neg hs] at h
    cases h
def indexF (s sep : ByteArray) : Option Int := if sep.size = 1 then some (Lib.indexByte s.data.toList (sep.data.toList.headD 0)) else none
theorem index_calls (s sep : ByteArray) (r : Int) (w : World) (h : indexF s sep = some r) :
    Calls Tryd.prog 87 #[.string s, .string sep] w fun e w' => e = .returned (.int .i64 r) ∧ Drawn0 w w' := by
  unfold indexF at h
  by_cases hs : sep.size = 1
  · rw [if_pos hs] at h
    injection h with h
    subst h
    have c := Tryd.strings_Index_one s (sep.data.toList.headD 0) w
    rw [← one_byte hs] at c
    refine c.mono ?_
    rintro e w' ⟨rfl, rfl⟩
    exact ⟨rfl, ⟨0, rfl⟩⟩
  · rw [if_neg hs] at h
    cases h
def itoaF (n : Int) : Option ByteArray := if 0 ≤ n ∧ n < 100 then some ⟨(Lib.decDigits n.toNat).toArray⟩ else none
theorem itoa_calls (n : Int) (r : ByteArray) (w : World) (h : itoaF n = some r) :
    Calls Tryd.prog 45 #[.int .i64 n] w fun e w' => e = .returned (.string r) ∧ Drawn0 w w' := by
  unfold itoaF at h
  by_cases hn : 0 ≤ n ∧ n < 100
  · rw [if_pos hn] at h
    injection h with h
    subst h
    obtain ⟨m, rfl⟩ := Int.eq_ofNat_of_zero_le hn.1
    refine (Tryd.strconv_Itoa_small m (by omega) w).mono ?_
    rintro e w' ⟨rfl, rfl⟩
    exact ⟨rfl, ⟨0, rfl⟩⟩
  · rw [if_neg hn] at h
    cases h
def joinL (l : List ByteArray) (sep : ByteArray) : List UInt8 := Lib.join (l.map (·.data.toList)) sep.data.toList
def joinF (l : List ByteArray) (sep : ByteArray) : Option ByteArray := if (joinL l sep).length ≤ 140737488355328 ∧ l.length ≤ 140737488355328 then some ⟨(joinL l sep).toArray⟩ else none
theorem cell_block {w : World} {a : Addr} {v : Value} (h : w.cell? a = some v) : a.block < w.heap.size ∧ a.spot = none := by
  unfold World.cell? at h
  split at h
  · rename_i c e f hb
    refine ⟨?_, ?_⟩
    · rcases Nat.lt_or_ge a.block w.heap.size with h' | h'
      · exact h'
      · rw [Array.getElem?_eq_none h'] at hb; cases hb
    · cases hs : a.spot with
      | none => rfl
      | some x => simp [hs] at h
  · cases h
theorem join_calls (A0 : Option Addr) (c0 : Nat) (l0 : List ByteArray) (a1 : ByteArray) (r : ByteArray) (w : World) (hr0 : Kd.C Kd.string w A0 l0.length l0) (hc0 : l0.length ≤ c0) (h : joinF l0 a1 = some r) :
    Calls Tryd.prog 46 #[.slice A0 l0.length c0, .string a1] w fun e w' => e = .returned (.string r) ∧ Below w.heap.size w w' := by
  unfold joinF at h
  by_cases hl : (joinL l0 a1).length ≤ 140737488355328 ∧ l0.length ≤ 140737488355328
  · rw [if_pos hl] at h
    injection h with h
    subst h
    cases l0 with
    | nil =>
      refine (Tryd.strings_Join_none A0 c0 a1 w).mono ?_
      rintro e w' ⟨rfl, rfl⟩
      exact ⟨rfl, Below.refl _ _⟩
    | cons x xs =>
      obtain ⟨ad, rfl, hx⟩ := Kd.at_string hr0 0 (by omega) (by simp only [List.length_cons]; omega)
      have e0 : ad.add (0 : Int).toNat = ad := by simp [Addr.add]
      rw [e0] at hx
      have hb := cell_block hx
      obtain ⟨bk, o, sp⟩ := ad
      obtain ⟨hb1, hb2⟩ := hb
      simp only at hb1 hb2
      subst hb2
      refine Tryd.strings_Join bk o c0 (x :: xs) a1 w (fun j y hy => ?_) hb1 hl.2 hc0 hl.1
      have hj : j < (x :: xs).length := by
        rcases Nat.lt_or_ge j (x :: xs).length with h' | h'
        · exact h'
        · rw [List.getElem?_eq_none h'] at hy; cases hy
      obtain ⟨ad2, e2, hc⟩ := Kd.at_string hr0 (j : Int) (by omega) (by omega)
      injection e2 with e2
      subst e2
      have ea : (⟨bk, o, none⟩ : Addr).add (j : Int).toNat = ⟨bk, o + j, none⟩ := by
        rw [Int.toNat_natCast]
        unfold Addr.add
        by_cases hz : j = 0
        · rw [if_pos hz, hz]; rfl
        · rw [if_neg hz]
      rw [ea] at hc
      rw [hc]
      have : rdOf ByteArray.empty (x :: xs) (j : Int) = y := by
        unfold rdOf
        rw [Int.toNat_natCast, List.getD_eq_getElem?_getD, hy]
        rfl
      rw [this]
  · rw [if_neg hl] at h
    cases h
end Go.Proofs.YtkfnehgmgebcbaaDoorLibS
