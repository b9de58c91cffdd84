import Derived.Test.YtnhgiincboocaaaRC
namespace Go.Proofs.Ytnhgiincboocaaa.PFnSquareWindingsPure
open Go.RowKit Go.Proofs.Ytnhgiincboocaaa.PFnSquareWindings Go.Proofs.YtnhgiincboocaaaW.PrintWords Go.Proofs.YtnhgiincboocaaaW.PrintLast Go.Proofs.YtnhgiincboocaaaW.PrintMore Go.Proofs.Ytnhgiincboocaaa.PFnSquareWindingsPure
set_option linter.unusedVariables false
theorem open_ev {l : List Int} (hw : ∀ x ∈ l, (Lit.int .u8 x).wf = true) : ∃ b, spec_l20Open.f l = some (b, 0) ∧ Bytes b := by
  unfold spec_l20Open.f
  by_cases h : (l.length : Int) > 2000
  · exact ⟨l.take 2000, by rw [if_pos h, if_pos (by omega)], bytes_of (fun x hx => hw x (List.mem_of_mem_take hx)) (by rw [List.length_take]; omega)⟩
  · exact ⟨l, by rw [if_neg h], bytes_of hw (by omega)⟩
def table : List (List Int) := [[2, 2], [2, 3], [3, 2], [1, 4], [5, 1], [1, 1], [2, 2], [2, 3], [3, 3], [0, 2]]
theorem grid_draw {b : List Int} (hb : Bytes b) (p : Int) (h0 : 0 ≤ p) (h1 : p ≤ 1000) : ∃ (v : Fin 10), Ev (fun k => spec_l20Grid.f k b p) (rd (rd_L1 table v.val) 0, rd (rd_L1 table v.val) 1, p + 1) := by
  obtain ⟨v, hv, v0, v1⟩ := pick_ev hb p 10 h0 (by omega)
  obtain ⟨m, rfl⟩ := Int.eq_ofNat_of_zero_le v0
  have hm : m < 10 := by have := v1 (by omega); omega
  refine ⟨⟨m, hm⟩, ?_⟩
  unfold spec_l20Grid.f
  refine Ev.congr (fun k => Option.bind_some _ _) (Ev.bind hv (Ev.congr (fun k => if_pos (by omega)) (Ev.congr (fun k => if_pos (by simp; omega)) ?_)))
  have key : ∀ m : Fin 10, 0 < (rd_L1 table m.val).length ∧ 1 < (rd_L1 table m.val).length := by decide
  have := key ⟨m, hm⟩
  simp only at this
  exact ev_const (fun k => by
    show (if 0 < ((rd_L1 table m).length : Int) then (if 1 < ((rd_L1 table m).length : Int) then some (rd (rd_L1 table m) 0, rd (rd_L1 table m) 1, p + 1) else none) else none) = _
    rw [if_pos (by omega), if_pos (by omega)])
def okCase (r c : Int) (n : Nat) : Prop := ∀ st : List Int, st.length = n → InK 3 st → valid r c → Ev (fun k => laws_FnSquareWindings.j0 k r c st (sqw r c st) (net_of r c) ((st.length : Int) != ((net_of r c).length : Int))) true
theorem closed22 : Closed [6, 9, 9, 6] [0, 1, 3, 2, 0] := closed_of (by decide +kernel)
theorem closed23 : Closed [10, 21, 34, 17, 42, 20] [0, 1, 2, 5, 4, 3, 0] := closed_of (by decide +kernel)
theorem closed32 : Closed [6, 9, 25, 38, 36, 24] [0, 1, 3, 5, 4, 2, 0] := closed_of (by decide +kernel)
theorem ok22 : okCase 2 2 4 := fun st hl hi hv => good hv (net := [6, 9, 9, 6]) (ts := [[0, 1, 3, 2, 0]]) (border := [0, 1, 3, 2, 0]) (by decide +kernel) (by decide +kernel) (by decide +kernel) (.inr ⟨closed22, by decide, by decide, rfl⟩) case22 hl hi (by decide) (by decide)
theorem ok23 : okCase 2 3 6 := fun st hl hi hv => good hv (net := [10, 21, 34, 17, 42, 20]) (ts := [[0, 1, 4, 3, 0], [1, 2, 5, 4, 1]]) (border := [0, 1, 2, 5, 4, 3, 0]) (by decide +kernel) (by decide +kernel) (by decide +kernel) (.inr ⟨closed23, by decide, by decide, rfl⟩) case23 hl hi (by decide) (by decide)
theorem ok32 : okCase 3 2 6 := fun st hl hi hv => good hv (net := [6, 9, 25, 38, 36, 24]) (ts := [[0, 1, 3, 2, 0], [2, 3, 5, 4, 2]]) (border := [0, 1, 3, 5, 4, 2, 0]) (by decide +kernel) (by decide +kernel) (by decide +kernel) (.inr ⟨closed32, by decide, by decide, rfl⟩) case32 hl hi (by decide) (by decide)
theorem ok14 : okCase 1 4 4 := fun st hl hi hv => good hv (net := [2, 5, 10, 4]) (ts := []) (border := []) (by decide +kernel) (by decide +kernel) (by decide +kernel) (.inl ⟨rfl, by decide⟩) case14 hl hi (by decide) (by decide)
theorem ok51 : okCase 5 1 5 := fun st hl hi hv => good hv (net := [2, 5, 10, 20, 8]) (ts := []) (border := []) (by decide +kernel) (by decide +kernel) (by decide +kernel) (.inl ⟨rfl, by decide⟩) case51 hl hi (by decide) (by decide)
theorem ok11 : okCase 1 1 1 := fun st hl hi hv => good hv (net := [0]) (ts := []) (border := []) (by decide +kernel) (by decide +kernel) (by decide +kernel) (.inl ⟨rfl, by decide⟩) case11 hl hi (by decide) (by decide)
theorem okNo {r c : Int} {n : Nat} (h : ¬ valid r c) : okCase r c n := fun st hl hi hv => absurd hv h
def nodesOf (r c : Int) : Int := (mx (wrap64 (r * c)) 1) % 7
theorem all_cases : ∀ v : Fin 10, ∃ n : Nat, n ≤ 6 ∧ nodesOf (rd (rd_L1 table v.val) 0) (rd (rd_L1 table v.val) 1) = n ∧ okCase (rd (rd_L1 table v.val) 0) (rd (rd_L1 table v.val) 1) n := by
  intro v
  match v with
  | ⟨0, _⟩ => exact ⟨4, by decide, (by decide +kernel : nodesOf 2 2 = 4), ok22⟩
  | ⟨1, _⟩ => exact ⟨6, by decide, (by decide +kernel : nodesOf 2 3 = 6), ok23⟩
  | ⟨2, _⟩ => exact ⟨6, by decide, (by decide +kernel : nodesOf 3 2 = 6), ok32⟩
  | ⟨3, _⟩ => exact ⟨4, by decide, (by decide +kernel : nodesOf 1 4 = 4), ok14⟩
  | ⟨4, _⟩ => exact ⟨5, by decide, (by decide +kernel : nodesOf 5 1 = 5), ok51⟩
  | ⟨5, _⟩ => exact ⟨1, by decide, (by decide +kernel : nodesOf 1 1 = 1), ok11⟩
  | ⟨6, _⟩ => exact ⟨4, by decide, (by decide +kernel : nodesOf 2 2 = 4), ok22⟩
  | ⟨7, _⟩ => exact ⟨6, by decide, (by decide +kernel : nodesOf 2 3 = 6), ok23⟩
  | ⟨8, _⟩ => exact ⟨2, by decide, (by decide +kernel : nodesOf 3 3 = 2), (okNo (by decide) : okCase 3 3 2)⟩
  | ⟨9, _⟩ => exact ⟨1, by decide, (by decide +kernel : nodesOf 0 2 = 1), (okNo (by decide) : okCase 0 2 1)⟩
theorem law_ev (l : List Int) (hw : ∀ x ∈ l, (Lit.int .u8 x).wf = true) : Ev (fun k => laws_FnSquareWindings.f k l) true := by
  unfold laws_FnSquareWindings.f
  by_cases hl : (l.length : Int) > 1048576
  · exact ev_const (fun k => if_pos hl)
  · refine Ev.congr (fun k => if_neg hl) ?_
    obtain ⟨b, hb, hB⟩ := open_ev hw
    obtain ⟨v, hv⟩ := grid_draw hB 0 (by omega) (by omega)
    obtain ⟨n, hn6, hn, hok⟩ := all_cases v
    generalize rd (rd_L1 table v.val) 0 = r at *
    generalize rd (rd_L1 table v.val) 1 = c at *
    obtain ⟨st, q, hst, hsl, hsi, _, _⟩ := state_draw hB n (by omega) 3 (by omega) (0 + 1) (by omega) (by omega)
    have D : Ev (fun k => spec_DrawSquareWindings.f k l) (r, c, st) := by
      unfold spec_DrawSquareWindings.f
      rw [hb]
      refine Ev.congr (fun k => Option.bind_some _ _) (Ev.bind hv ?_)
      refine Ev.bind (a := (st, q)) ?_ (Ev.now _)
      show Ev (fun k => spec_l20State.f k b (0 + 1) (nodesOf r c) 3 0) (st, q)
      rw [hn]
      exact hst
    exact Ev.bind D (behind (by show st.length ≤ _; omega) (hok st hsl hsi))
end Go.Proofs.Ytnhgiincboocaaa.PFnSquareWindingsPure
