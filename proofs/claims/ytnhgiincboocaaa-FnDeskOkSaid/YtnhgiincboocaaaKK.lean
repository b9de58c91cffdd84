import Derived.Test.YtnhgiincboocaaaKA
namespace Go.Proofs.Ytnhgiincboocaaa.PFnDeskOkPure
open Go.RowKit Go.Proofs.Ytnhgiincboocaaa.PFnDeskOk Go.Proofs.YtnhgiincboocaaaW.PrintWords Go.Proofs.YtnhgiincboocaaaW.PrintLast Go.Proofs.YtnhgiincboocaaaW.PrintMore Go.Proofs.Ytnhgiincboocaaa.PFnDeskOkPure
set_option linter.unusedVariables false
theorem xor_nn {x y : Int} (hx0 : 0 ≤ x) (hx : x < 4611686018427387904) (hy0 : 0 ≤ y) (hy : y < 4611686018427387904) : 0 ≤ Go.bits .xor .i64 x y ∧ Go.bits .xor .i64 x y < 4611686018427387904 := by
  obtain ⟨a, rfl⟩ := Int.eq_ofNat_of_zero_le hx0
  obtain ⟨b, rfl⟩ := Int.eq_ofNat_of_zero_le hy0
  have hx' : a < 2 ^ 62 := by omega
  have hy' : b < 2 ^ 62 := by omega
  have hz := Nat.xor_lt_two_pow hx' hy'
  have e : Go.bits .xor .i64 (a : Int) (b : Int) = ((a ^^^ b : Nat) : Int) := by
    have p : 2 ^ IntKind.i64.bits = 18446744073709551616 := by decide
    simp only [Go.bits, BitVec.ofInt_natCast, BitVec.toNat_xor, BitVec.toNat_ofNat]
    rw [Nat.mod_eq_of_lt (by omega), Nat.mod_eq_of_lt (by omega), IntKind.wrap_i64]
    omega
  rw [e]
  omega
def Bytes (b : List Int) : Prop := b.length ≤ 2000 ∧ ∀ i : Int, 0 ≤ rd b i ∧ rd b i ≤ 255
theorem bytes_of {l : List Int} (hw : ∀ x ∈ l, (Lit.int .u8 x).wf = true) (hl : l.length ≤ 2000) : Bytes l := by
  refine ⟨hl, fun i => ?_⟩
  unfold rd
  rw [List.getD_eq_getElem?_getD]
  cases h : l[i.toNat]? with
  | none => simp
  | some x =>
    have hx := hw x (List.mem_of_getElem? h)
    simp only [Option.getD_some]
    have hmin : IntKind.u8.min = 0 := rfl
    have hmax : IntKind.u8.max = 255 := rfl
    simp only [Lit.wf, Bool.and_eq_true, decide_eq_true_eq, hmin, hmax] at hx
    exact hx
theorem tmod_range {x n : Int} (hx : 0 ≤ x) (hn : 0 < n) : 0 ≤ Int.tmod x n ∧ Int.tmod x n < n := by
  rw [Int.tmod_eq_emod_of_nonneg hx]
  exact ⟨Int.emod_nonneg _ (by omega), Int.emod_lt_of_pos _ hn⟩
/-- A number that is picked. -/
theorem pick_ev {b : List Int} (hb : Bytes b) (p n : Int) (h0 : 0 ≤ p) (h1 : p ≤ 1000000) : ∃ v, Ev (fun k => spec_l20Rd_pick.f k b p n) (v, p + 1) ∧ 0 ≤ v ∧ (1 ≤ n → v < n) := by
  obtain ⟨hl, hr⟩ := hb
  have e1 : wrap64 (p + 1) = p + 1 := w64 (by omega) (by omega)
  by_cases hn : n < 1
  · refine ⟨0, ?_, by omega, by omega⟩
    unfold spec_l20Rd_pick.f
    refine Ev.congr (fun k => if_pos hn) (ev_ret (fun k => ?_))
    simp only [spec_l20Rd_pick.j0]
    rw [if_pos trivial, e1]
  · have hn' : 1 ≤ n := by omega
    by_cases hz : b.length = 0
    · refine ⟨0, ?_, by omega, by omega⟩
      unfold spec_l20Rd_pick.f
      refine Ev.congr (fun k => if_neg hn) (ev_ret (fun k => ?_))
      have : ((b.length : Int) == 0) = true := by rw [hz]; rfl
      rw [this]
      simp only [spec_l20Rd_pick.j0]
      rw [if_pos trivial, e1]
    · have hz' : ((b.length : Int) == 0) = false := beq_eq_false_iff_ne.2 (by omega)
      have e2 : wrap64 (p + 1 - 1) = p := by rw [w64 (by omega) (by omega)]; omega
      by_cases hlt : p < b.length
      · have r := hr p
        have e3 : wrap64 (rd b p) = rd b p := w64 (by omega) (by omega)
        have t := tmod_range r.1 (show 0 < n by omega)
        refine ⟨Int.tmod (rd b p) n, ?_, t.1, fun _ => t.2⟩
        unfold spec_l20Rd_pick.f
        refine Ev.congr (fun k => if_neg hn) (ev_ret (fun k => ?_))
        rw [hz']
        simp only [spec_l20Rd_pick.j0]
        rw [if_neg (by decide), e1, e2, if_pos hlt, if_pos h0, if_neg (by omega), e3]
      · have hpos : 0 < (b.length : Int) := by omega
        have t1 := tmod_range h0 hpos
        have e4 : wrap64 (p * 7) = p * 7 := w64 (by omega) (by omega)
        have e5 : wrap64 (p * 7 + 3) = p * 7 + 3 := w64 (by omega) (by omega)
        have t2 := tmod_range (show 0 ≤ p * 7 + 3 by omega) hpos
        obtain ⟨u, hu⟩ : ∃ u, Int.tmod p b.length = u := ⟨_, rfl⟩
        obtain ⟨v, hv⟩ : ∃ v, Int.tmod (p * 7 + 3) b.length = v := ⟨_, rfl⟩
        have d0 : 0 ≤ Int.tdiv p b.length ∧ Int.tdiv p b.length ≤ p := by
          rw [Int.tdiv_eq_ediv_of_nonneg h0]
          exact ⟨Int.ediv_nonneg h0 (by omega), Int.ediv_le_self _ h0⟩
        obtain ⟨q, hq⟩ : ∃ q, Int.tdiv p b.length = q := ⟨_, rfl⟩
        rw [hq] at d0
        rw [hu] at t1
        rw [hv] at t2
        have r1 := hr u
        have r2 := hr v
        obtain ⟨x, hx⟩ : ∃ x, rd b u * 131 + rd b v * 1117 + p * 29 + q * 53 = x := ⟨_, rfl⟩
        have xb : 0 ≤ x ∧ x ≤ 100000000 := by omega
        have y0 : 0 ≤ Int.tdiv x 64 ∧ Int.tdiv x 64 ≤ x := by
          rw [Int.tdiv_eq_ediv_of_nonneg xb.1]
          omega
        have z := xor_nn xb.1 (by omega) y0.1 (by omega)
        have t := tmod_range z.1 (show 0 < n by omega)
        refine ⟨_, ?_, t.1, fun _ => t.2⟩
        unfold spec_l20Rd_pick.f
        refine Ev.congr (fun k => if_neg hn) (ev_ret (fun k => ?_))
        rw [hz']
        simp only [spec_l20Rd_pick.j0]
        rw [if_neg (by decide), e1, e2, if_neg hlt, if_neg (by omega), e4, e5, hu, hv, hq]
        rw [if_pos t1.1, if_pos t1.2, if_pos t2.1, if_pos t2.2, if_neg (by omega), w64 (x := rd b u) (by omega) (by omega), w64 (x := rd b v) (by omega) (by omega), w64 (x := rd b u * 131) (by omega) (by omega), w64 (x := rd b v * 1117) (by omega) (by omega), w64 (x := rd b u * 131 + rd b v * 1117) (by omega) (by omega), w64 (x := p * 29) (by omega) (by omega), w64 (x := rd b u * 131 + rd b v * 1117 + p * 29) (by omega) (by omega), w64 (x := q) (by omega) (by omega), w64 (x := q * 53) (by omega) (by omega), w64 (x := rd b u * 131 + rd b v * 1117 + p * 29 + q * 53) (by omega) (by omega), hx, w64 (x := Int.tdiv x 64) (by omega) (by omega)]
def InK (kinds : Int) (l : List Int) : Prop := ∀ x ∈ l, 0 ≤ x ∧ x < kinds
/-- A state that is drawn (n = 0: none is spoilt). -/
theorem state_draw_l0 {b : List Int} (hb : Bytes b) (nodes : Nat) (hn : nodes ≤ 100) (kinds : Int) (hk : 1 ≤ kinds) (thin : Int) :
    ∀ (d i : Nat) (acc : List Int) (p : Int), i + d = nodes → acc.length = i → InK kinds acc → 0 ≤ p → p + 2 * d ≤ 900000 →
      ∃ st q, Ev (fun k => spec_l20State.l0 k nodes kinds 0 acc thin i b p) (st, q) ∧ st.length = nodes ∧ InK kinds st ∧ 0 ≤ q ∧ q ≤ p + 2 * d := by
  intro d
  induction d with
  | zero =>
    intro i acc p hi ha hin h0 h1
    refine ⟨acc, p, ?_, by omega, hin, h0, by omega⟩
    refine ev_ret (fun k => ?_)
    simp only [spec_l20State.l0, spec_l20Rd_odd.f]
    rw [if_neg (by omega), if_neg (by omega), Option.bind_some, if_neg (show ¬ (false = true) by decide)]
  | succ d ih =>
    intro i acc p hi ha hin h0 h1
    have lt : acc.length < 17592186044416 := by omega
    have e : wrap64 ((i : Int) + 1) = ((i + 1 : Nat) : Int) := by rw [w64 (by omega) (by omega)]; rfl
    have put : ∀ x : Int, 0 ≤ x → x < kinds → InK kinds (acc ++ [x]) := by
      intro x hx0 hx1 y hy
      rw [List.mem_append, List.mem_singleton] at hy
      rcases hy with hy | rfl
      · exact hin y hy
      · exact ⟨hx0, hx1⟩
    by_cases ht : thin > 0
    · obtain ⟨v, hv, v0, v1⟩ := pick_ev hb p 3 h0 (by omega)
      by_cases hvt : v < thin
      · obtain ⟨st, q, hE, hl, hI, q0, q1⟩ := ih (i + 1) (acc ++ [0]) (p + 1) (by omega) (by simp [ha]) (put 0 (by omega) (by omega)) (by omega) (by omega)
        refine ⟨st, q, ?_, hl, hI, q0, by omega⟩
        refine ev_eq _ (fun k => ?_) (Ev.bind hv (f := fun k bt => if bt.1 < thin then (if acc.length < 17592186044416 then spec_l20State.l0 k nodes kinds 0 (acc ++ [0]) thin (wrap64 ((i : Int) + 1)) b bt.2 else none) else ((spec_l20Rd_pick.f k b bt.2 kinds).bind fun bt277 => (if acc.length < 17592186044416 then (spec_l20State.l0 k nodes kinds 0 (acc ++ [bt277.1]) thin (wrap64 ((i : Int) + 1)) b bt277.2) else (none)))) ?_)
        · simp only [spec_l20State.l0]
          rw [if_pos (by omega), if_pos ht]
        · exact Ev.congr (fun k => by rw [if_pos hvt, if_pos lt, e]) hE
      · obtain ⟨u, hu, u0, u1⟩ := pick_ev hb (p + 1) kinds (by omega) (by omega)
        obtain ⟨st, q, hE, hl, hI, q0, q1⟩ := ih (i + 1) (acc ++ [u]) (p + 1 + 1) (by omega) (by simp [ha]) (put u u0 (u1 hk)) (by omega) (by omega)
        refine ⟨st, q, ?_, hl, hI, q0, by omega⟩
        refine ev_eq _ (fun k => ?_) (Ev.bind hv (f := fun k bt => if bt.1 < thin then (if acc.length < 17592186044416 then spec_l20State.l0 k nodes kinds 0 (acc ++ [0]) thin (wrap64 ((i : Int) + 1)) b bt.2 else none) else ((spec_l20Rd_pick.f k b bt.2 kinds).bind fun bt277 => (if acc.length < 17592186044416 then (spec_l20State.l0 k nodes kinds 0 (acc ++ [bt277.1]) thin (wrap64 ((i : Int) + 1)) b bt277.2) else (none)))) ?_)
        · simp only [spec_l20State.l0]
          rw [if_pos (by omega), if_pos ht]
        · refine Ev.congr (fun k => if_neg hvt) (Ev.bind hu ?_)
          exact Ev.congr (fun k => by rw [if_pos lt, e]) hE
    · obtain ⟨u, hu, u0, u1⟩ := pick_ev hb p kinds (by omega) (by omega)
      obtain ⟨st, q, hE, hl, hI, q0, q1⟩ := ih (i + 1) (acc ++ [u]) (p + 1) (by omega) (by simp [ha]) (put u u0 (u1 hk)) (by omega) (by omega)
      refine ⟨st, q, ?_, hl, hI, q0, by omega⟩
      refine ev_eq _ (fun k => ?_) (Ev.bind hu (f := fun k bt => if acc.length < 17592186044416 then (spec_l20State.l0 k nodes kinds 0 (acc ++ [bt.1]) thin (wrap64 ((i : Int) + 1)) b bt.2) else (none)) ?_)
      · simp only [spec_l20State.l0]
        rw [if_pos (by omega), if_neg ht]
      · exact Ev.congr (fun k => by rw [if_pos lt, e]) hE
theorem state_draw {b : List Int} (hb : Bytes b) (nodes : Nat) (hn : nodes ≤ 100) (kinds : Int) (hk : 1 ≤ kinds) (p : Int) (h0 : 0 ≤ p) (h1 : p ≤ 800000) :
    ∃ st q, Ev (fun k => spec_l20State.f k b p nodes kinds 0) (st, q) ∧ st.length = nodes ∧ InK kinds st ∧ 0 ≤ q ∧ q ≤ p + 2 * nodes + 1 := by
  obtain ⟨v, hv, v0, v1⟩ := pick_ev hb p 3 h0 (by omega)
  obtain ⟨st, q, hE, hl, hI, q0, q1⟩ := state_draw_l0 hb nodes hn kinds hk v nodes 0 [] (p + 1) (by omega) rfl (fun x hx => by simp at hx) (by omega) (by omega)
  refine ⟨st, q, ?_, hl, hI, q0, by omega⟩
  unfold spec_l20State.f
  exact Ev.bind hv hE
theorem path_dec : ∀ n : Fin 6, (spec_PathNet.f 40 ((n.val : Int) + 1)).map List.length = some (n.val + 1) := by decide +kernel
theorem ring_dec : ∀ n : Fin 4, (spec_RingNet.f 40 ((n.val : Int) + 3)).map List.length = some (n.val + 3) := by decide +kernel
theorem path_ev (n : Int) (h0 : 1 ≤ n) (h1 : n ≤ 6) : ∃ net, Ev (fun k => spec_PathNet.f k n) net ∧ (net.length : Int) = n := by
  obtain ⟨m, rfl⟩ : ∃ m : Nat, n = (m : Int) + 1 := ⟨(n - 1).toNat, by omega⟩
  have h := path_dec ⟨m, by omega⟩
  obtain ⟨net, hn, hl⟩ := Option.map_eq_some_iff.1 h
  exact ⟨net, Ev.of (spec_PathNet.mono _) hn, by rw [hl]; rfl⟩
theorem ring_ev (n : Int) (h0 : 3 ≤ n) (h1 : n ≤ 6) : ∃ net, Ev (fun k => spec_RingNet.f k n) net ∧ (net.length : Int) = n := by
  obtain ⟨m, rfl⟩ : ∃ m : Nat, n = (m : Int) + 3 := ⟨(n - 3).toNat, by omega⟩
  have h := ring_dec ⟨m, by omega⟩
  obtain ⟨net, hn, hl⟩ := Option.map_eq_some_iff.1 h
  exact ⟨net, Ev.of (spec_RingNet.mono _) hn, by rw [hl]; rfl⟩
theorem odd0 (b : List Int) (p : Int) : Ev (fun k => spec_l20Rd_odd.f k b p 0) (false, p) := by
  unfold spec_l20Rd_odd.f
  exact ev_const (fun k => if_neg (by decide))
theorem odd_ev {b : List Int} (hb : Bytes b) (p n : Int) (h0 : 0 ≤ p) (h1 : p ≤ 900000) : ∃ v q, Ev (fun k => spec_l20Rd_odd.f k b p n) (v, q) ∧ p ≤ q ∧ q ≤ p + 1 := by
  by_cases hn : n > 0
  · obtain ⟨v, hv, _, _⟩ := pick_ev hb p n h0 (by omega)
    refine ⟨(v == wrap64 (n - 1)), p + 1, ?_, by omega, by omega⟩
    unfold spec_l20Rd_odd.f
    exact Ev.congr (fun k => if_pos hn) (Ev.bind hv (Ev.now _))
  · refine ⟨false, p, ?_, by omega, by omega⟩
    unfold spec_l20Rd_odd.f
    exact ev_const (fun k => if_neg hn)
theorem net_l0 {b : List Int} (hb : Bytes b) (nodes : Int) (hn1 : 1 ≤ nodes) (hn : nodes ≤ 6) : ∀ (d : Nat) (net : List Int) (p : Int), (net.length : Int) = nodes → 0 ≤ p → p + 2 * d ≤ 900000 →
    ∃ net' q, Ev (fun k => spec_l20Net.l0 k 0 nodes net (d : Int) b p) (net', q) ∧ (net'.length : Int) = nodes ∧ 0 ≤ q ∧ q ≤ p + 2 * d := by
  intro d
  induction d with
  | zero =>
    intro net p hl h0 h1
    refine ⟨net, p, ?_, hl, h0, by omega⟩
    refine ev_eq ?f_1 (fun k => ?h_1) ?g_1
    case h_1 =>
      simp only [spec_l20Net.l0]
      rw [if_neg (by omega)]
    case g_1 => exact Ev.bind (odd0 b p) (ev_const (fun k => if_neg Bool.false_ne_true))
  | succ d ih =>
    intro net p hl h0 h1
    obtain ⟨u, hu, u0, u1⟩ := pick_ev hb p nodes h0 (by omega)
    obtain ⟨v, hv, v0, v1⟩ := pick_ev hb (p + 1) nodes (by omega) (by omega)
    have hu1 := u1 hn1
    have hv1 := v1 hn1
    have e : wrap64 (((d + 1 : Nat) : Int) - 1) = (d : Int) := by rw [w64 (by omega) (by omega)]; omega
    by_cases huv : u = v
    · obtain ⟨net', q, hE, hl', q0, q1⟩ := ih net (p + 1 + 1) hl (by omega) (by omega)
      refine ⟨net', q, ?_, hl', q0, by omega⟩
      refine ev_eq ?f_2 (fun k => ?h_2) ?g_2
      case h_2 =>
        simp only [spec_l20Net.l0]
        rw [if_pos (by omega), e]
      case g_2 => exact Ev.bind hu (Ev.bind hv (Ev.congr (fun k => if_pos huv) hE))
    · obtain ⟨net', q, hE, hl', q0, q1⟩ := ih ((net.set (u : Int).toNat (Go.bits .or .i64 (rd net u) (shl .i64 1 v))).set (v : Int).toNat (Go.bits .or .i64 (rd (net.set (u : Int).toNat (Go.bits .or .i64 (rd net u) (shl .i64 1 v))) v) (shl .i64 1 u))) (p + 1 + 1) (by rw [List.length_set, List.length_set]; exact hl) (by omega) (by omega)
      refine ⟨net', q, ?_, hl', q0, by omega⟩
      refine ev_eq ?f_3 (fun k => ?h_3) ?g_3
      case h_3 =>
        simp only [spec_l20Net.l0]
        rw [if_pos (by omega), e]
      case g_3 => exact Ev.bind hu (Ev.bind hv (Ev.congr (fun k => if_neg huv) (Ev.congr (fun k => if_pos u0) (Ev.congr (fun k => if_pos (by rw [hl]; exact hu1)) (Ev.congr (fun k => if_pos v0) (Ev.congr (fun k => Option.bind_some _ _) (Ev.congr (fun k => if_pos (by rw [hl]; exact hv1)) hE)))))))
theorem net_j0 {b : List Int} (hb : Bytes b) (nodes : Int) (hn1 : 1 ≤ nodes) (hn : nodes ≤ 6) (net : List Int) (hl : (net.length : Int) = nodes) (p : Int) (h0 : 0 ≤ p) (h1 : p ≤ 800000) : ∃ net' q, Ev (fun k => spec_l20Net.j0 k 0 nodes net b p) (net', q) ∧ (net'.length : Int) = nodes ∧ 0 ≤ q ∧ q ≤ p + 11 := by
  obtain ⟨v, hv, v0, v1⟩ := pick_ev hb p 6 h0 (by omega)
  have hv1 := v1 (by omega)
  obtain ⟨d, rfl⟩ := Int.eq_ofNat_of_zero_le v0
  obtain ⟨net', q, hE, hl', q0, q1⟩ := net_l0 hb nodes hn1 hn d net (p + 1) hl (by omega) (by omega)
  refine ⟨net', q, ?_, hl', q0, by omega⟩
  refine ev_eq ?f_4 (fun k => ?h_4) ?g_4
  case h_4 =>
    simp only [spec_l20Net.j0]
    rfl
  case g_4 => exact Ev.bind hv hE
theorem net_draw {b : List Int} (hb : Bytes b) (p : Int) (h0 : 0 ≤ p) (h1 : p ≤ 700000) : ∃ net q, Ev (fun k => spec_l20Net.f k b p 0) (net, q) ∧ 1 ≤ net.length ∧ net.length ≤ 6 ∧ 0 ≤ q ∧ q ≤ p + 13 := by
  obtain ⟨v, hv, v0, v1⟩ := pick_ev hb p 6 h0 (by omega)
  have hv1 := v1 (by omega)
  obtain ⟨c, hc, c0, c1⟩ := pick_ev hb (p + 1) 4 (by omega) (by omega)
  have hw : wrap64 (1 + v) = 1 + v := w64 (by omega) (by omega)
  obtain ⟨path, hp, pl⟩ := path_ev (1 + v) (by omega) (by omega)
  have hp' : Ev (fun k => spec_PathNet.f k (wrap64 (1 + v))) path := by rw [hw]; exact hp
  have j0 : ∀ net : List Int, (net.length : Int) = 1 + v → ∃ net' q, Ev (fun k => spec_l20Net.j0 k 0 (wrap64 (1 + v)) net b (p + 1 + 1)) (net', q) ∧ (net'.length : Int) = 1 + v ∧ 0 ≤ q ∧ q ≤ p + 1 + 1 + 11 := fun net hl => by
    rw [hw]
    exact net_j0 hb (1 + v) (by omega) (by omega) net hl (p + 1 + 1) (by omega) (by omega)
  unfold spec_l20Net.f
  by_cases hc0 : c = 0
  · by_cases h3 : wrap64 (1 + v) ≥ 3
    · obtain ⟨ring, hr, rl⟩ := ring_ev (1 + v) (by omega) (by omega)
      obtain ⟨net', q, hE, hl', q0, q1⟩ := j0 ring rl
      have hr' : Ev (fun k => spec_RingNet.f k (wrap64 (1 + v))) ring := by rw [hw]; exact hr
      exact ⟨net', q, Ev.bind hv (Ev.bind hp' (Ev.bind hc (Ev.congr (fun k => if_pos hc0) (Ev.congr (fun k => if_pos h3) (Ev.bind hr' hE))))), by omega, by omega, q0, by omega⟩
    · obtain ⟨net', q, hE, hl', q0, q1⟩ := j0 path pl
      exact ⟨net', q, Ev.bind hv (Ev.bind hp' (Ev.bind hc (Ev.congr (fun k => if_pos hc0) (Ev.congr (fun k => if_neg h3) hE)))), by omega, by omega, q0, by omega⟩
  · by_cases hc1 : c = 1
    · have hz : (((List.replicate (wrap64 (1 + v) : Int).toNat (0 : Int)).length : Nat) : Int) = 1 + v := by rw [List.length_replicate, hw]; omega
      obtain ⟨net', q, hE, hl', q0, q1⟩ := j0 _ hz
      exact ⟨net', q, Ev.bind hv (Ev.bind hp' (Ev.bind hc (Ev.congr (fun k => if_neg hc0) (Ev.congr (fun k => if_pos hc1) (Ev.congr (fun k => if_pos (show 0 ≤ wrap64 (1 + v) by omega)) (Ev.congr (fun k => if_pos (show (wrap64 (1 + v) : Int).toNat ≤ 35184372088832 by omega)) hE)))))), by omega, by omega, q0, by omega⟩
    · obtain ⟨net', q, hE, hl', q0, q1⟩ := j0 path pl
      exact ⟨net', q, Ev.bind hv (Ev.bind hp' (Ev.bind hc (Ev.congr (fun k => if_neg hc0) (Ev.congr (fun k => if_neg hc1) hE)))), by omega, by omega, q0, by omega⟩
theorem place_draw {b : List Int} (hb : Bytes b) (p n : Int) (h0 : 0 ≤ p) (h1 : p ≤ 600000) : ∃ net kinds st q, Ev (fun k => spec_l20Place.f k b p n) (net, kinds, st, q) ∧ net.length ≤ 6 ∧ st.length ≤ 7 ∧ 0 ≤ q ∧ q ≤ p + 40 := by
  obtain ⟨net, q1, hN, n1, n6, a0, a1⟩ := net_draw hb p h0 (by omega)
  obtain ⟨u, hu, u0, u1⟩ := pick_ev hb q1 3 a0 (by omega)
  obtain ⟨v, hv, v0, v1⟩ := pick_ev hb (q1 + 1) 2 (by omega) (by omega)
  have hu1 := u1 (by omega)
  have hv1 := v1 (by omega)
  have huv : 0 ≤ u * v ∧ u * v ≤ 2 := by
    have : v = 0 ∨ v = 1 := by omega
    rcases this with rfl | rfl <;> omega
  have e1 : wrap64 (u * v) = u * v := w64 (by omega) (by omega)
  have e2 : wrap64 (3 + wrap64 (u * v)) = 3 + u * v := by rw [e1]; exact w64 (by omega) (by omega)
  obtain ⟨st, q2, hS, sl, _, b0, b1⟩ := state_draw hb net.length (by omega) (3 + u * v) (by omega) (q1 + 1 + 1) (by omega) (by omega)
  rw [← e2] at hS
  obtain ⟨o, q3, hO, c0, c1⟩ := odd_ev hb q2 n b0 (by omega)
  unfold spec_l20Place.f
  cases o with
  | false => exact ⟨net, _, st, q3, Ev.bind hN (Ev.bind hu (Ev.bind hv (Ev.bind hS (Ev.bind hO (ev_const (fun k => if_neg Bool.false_ne_true)))))), n6, by omega, by omega, by omega⟩
  | true =>
    obtain ⟨x, hx, x0, x1⟩ := pick_ev hb q3 3 (by omega) (by omega)
    by_cases hx0 : x = 0
    · exact ⟨net, _, st ++ [0], q3 + 1, Ev.bind hN (Ev.bind hu (Ev.bind hv (Ev.bind hS (Ev.bind hO (Ev.congr (fun k => if_pos rfl) (Ev.bind hx (Ev.congr (fun k => if_pos hx0) (ev_const (fun k => if_pos (show st.length < 17592186044416 by omega)))))))))), n6, by rw [List.length_append, List.length_singleton]; omega, by omega, by omega⟩
    · by_cases hx1 : x = 1
      · obtain ⟨y, hy, y0, y1⟩ := pick_ev hb (q3 + 1) 2 (by omega) (by omega)
        have hy1 := y1 (by omega)
        exact ⟨net, _, st, q3 + 1 + 1, Ev.bind hN (Ev.bind hu (Ev.bind hv (Ev.bind hS (Ev.bind hO (Ev.congr (fun k => if_pos rfl) (Ev.bind hx (Ev.congr (fun k => if_neg hx0) (Ev.congr (fun k => if_pos hx1) (Ev.congr (fun k => Option.bind_some _ _) (Ev.bind hy (Ev.congr (fun k => if_pos y0) (ev_const (fun k => if_pos hy1))))))))))))), n6, by omega, by omega, by omega⟩
      · exact ⟨[], 0, [], q3 + 1, Ev.bind hN (Ev.bind hu (Ev.bind hv (Ev.bind hS (Ev.bind hO (Ev.congr (fun k => if_pos rfl) (Ev.bind hx (Ev.congr (fun k => if_neg hx0) (ev_const (fun k => if_neg hx1))))))))), Nat.zero_le _, Nat.zero_le _, by omega, by omega⟩
theorem open_bytes {l : List Int} (hw : ∀ x ∈ l, (Lit.int .u8 x).wf = true) : ∃ b, spec_l20Open.f l = some (b, 0) ∧ Bytes b := by
  unfold spec_l20Open.f
  by_cases h : (l.length : Int) > 2000
  · refine ⟨l.take 2000, by rw [if_pos h, if_pos (by omega)], bytes_of (fun x hx => hw x (List.mem_of_mem_take hx)) (by rw [List.length_take]; omega)⟩
  · exact ⟨l, by rw [if_neg h], bytes_of hw (by omega)⟩
end Go.Proofs.Ytnhgiincboocaaa.PFnDeskOkPure
