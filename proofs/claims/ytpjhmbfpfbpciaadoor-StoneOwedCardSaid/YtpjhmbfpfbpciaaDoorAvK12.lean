/- StoneOwed returns true for every input, and its input reads as it did: no condition. -/
import Derived.Test.YtpjhmbfpfbpciaaDoorAvMH
import Derived.Test.YtpjhmbfpfbpciaaDoorAvMJ
import Derived.KernelRfl
set_option linter.all false
set_option linter.unusedSectionVars false
set_option linter.unusedVariables false
set_option linter.unusedSimpArgs false
section
/- The law of what is owed. -/
set_option linter.unusedSimpArgs false
set_option linter.unusedVariables false
namespace Av
open Go (IntKind BinOp UnOp)
def yLo (b : Bk) (k : Nat) : Int := (tell (yardF k) b.T).1
def yHi (b : Bk) (k : Nat) : Int := (tell (yardF k) b.T).2
def leastTo (b : Bk) (c : Int) : Nat → Int
  | 0 => 0
  | k + 1 => leastTo b c k + (match b.ms[k]? with | some m => if m.c = c then yLo b k else 0 | none => 0)
def mostTo (b : Bk) (c : Int) : Nat → Int
  | 0 => 0
  | k + 1 => mostTo b c k + (match b.ms[k]? with | some m => if m.c = c then yHi b k else 0 | none => 0)
theorem lm_bd {b : Bk} (hok : b.ok = true) (hc : b.c = true) (c : Int) (k : Nat) : k ≤ b.ms.length → 0 ≤ leastTo b c k ∧ leastTo b c k ≤ 6 * (k : Int) ∧ 0 ≤ mostTo b c k ∧ mostTo b c k ≤ 6 * (k : Int) := by
  induction k with
  | zero => intro _; simp [leastTo, mostTo]
  | succ k ih =>
    intro hk
    have h := ih (by omega)
    obtain ⟨s1, s2, s3, _⟩ := yard_span hok hc (show k < b.ms.length by omega)
    simp only [leastTo, mostTo, List.getElem?_eq_getElem (show k < b.ms.length by omega), yLo, yHi]
    split <;> push_cast <;> omega
theorem lm_all {b : Bk} (hok : b.ok = true) (hc : b.c = true) (c : Int) {l : List Int} (hl : Trn b l) (k : Nat) : k ≤ b.ms.length → leastTo b c k ≤ allTo b.ms (fun m => decide (m.c = c)) l k ∧ allTo b.ms (fun m => decide (m.c = c)) l k ≤ mostTo b c k := by
  induction k with
  | zero => intro _; simp [leastTo, mostTo, allTo]
  | succ k ih =>
    intro hk
    have h := ih (by omega)
    obtain ⟨s1, s2, s3, s4, _⟩ := yard_span hok hc (show k < b.ms.length by omega)
    have h4 := s4 l hl
    simp only [leastTo, mostTo, allTo, List.getElem?_eq_getElem (show k < b.ms.length by omega), yLo, yHi, decide_eq_true_eq]
    split <;> omega
theorem law12 (b : Bk) (hb : b.fit) (n0 n1 : Int) : ∃ h', dcall pr (.fn 12 [] []) [b.v, .agg [.int .i64 n0, .int .i64 n1]] H.emp = some (.bool true, h') := by
  refine law_of fn12 rfl ?_
  have c1 := c35 b hb
  cases hok : b.ok with
  | false =>
    rw [hok] at c1
    simp [g12_macadamlaw03_StoneOwed, g12_macadamlaw03_StoneOwed_c, c1, c23, results, rdRess, rdRes]
  | true =>
  rw [hok] at c1
  have hlen := ok_len hok
  have c2 := c38 n0 4 (by omega)
  have c3 := c38 n1 100 (by omega)
  have w1 := wrapI_bd n0 (m := 4) (by omega)
  have w2 := wrapI_bd n1 (m := 100) (by omega)
  generalize wrapI n0 4 = y at *
  generalize wrapI n1 100 = r at *
  have c4 := c26 b hb y 1
  have c5 := c26 b hb y r
  rw [owed_ok hok (by omega) (by omega)] at c4 c5
  cases hc : b.c with
  | false =>
    rw [hc] at c4 c5
    simp at c4 c5
    simp [g12_macadamlaw03_StoneOwed, g12_macadamlaw03_StoneOwed_c, c1, c23, c2, c3, c4, c5, c41, results, rdRess, rdRes]
  | true =>
    rw [hc] at c4 c5
    simp only [if_true, spanV, Int.mul_one] at c4 c5
    obtain ⟨h1, ⟨l, hl, s5⟩, ⟨l', hl', s6⟩⟩ := tell_T hok hc (allF b fun m => decide (m.c = y))
    have g1 := lm_all hok hc y hl b.ms.length (Nat.le_refl _)
    have g2 := lm_all hok hc y hl' b.ms.length (Nat.le_refl _)
    have g3 := lm_bd hok hc y b.ms.length (Nat.le_refl _)
    have b1 := allTo_bd b.ms (fun m => decide (m.c = y)) hl.lok b.ms.length
    have b2 := allTo_bd b.ms (fun m => decide (m.c = y)) hl'.lok b.ms.length
    have g4 := h1 l hl
    simp only [allF] at s5 s6 g4
    generalize (tell (allF b fun m => decide (m.c = y)) b.T).1 = lo at *
    generalize (tell (allF b fun m => decide (m.c = y)) b.T).2 = hi at *
    have m1 := mul_bd (a := lo) (r := r) (by omega) (by omega) w2.1 (by omega)
    have m2 := mul_bd (a := hi) (r := r) (by omega) (by omega) w2.1 (by omega)
    rw [Int.mul_comm lo r, Int.mul_comm hi r] at c5
    rw [Int.mul_comm lo r] at m1
    rw [Int.mul_comm hi r] at m2
    have hw1 : IntKind.wrap .i64 (r * lo) = r * lo := wrap_id (by omega) (by omega)
    have hw2 : IntKind.wrap .i64 (r * hi) = r * hi := wrap_id (by omega) (by omega)
    have q1 : leastTo b y b.ms.length ≤ lo := by omega
    have q2 : hi ≤ mostTo b y b.ms.length := by omega
    have q3 : lo ≤ hi := by omega
    simp [g12_macadamlaw03_StoneOwed, g12_macadamlaw03_StoneOwed_c, c1, c23, c2, c3, c4, c5, c41]
    refine wpr_seq (wpr_oblock (loop_up pr (fun k e h => e 2 = b.bx ∧ e 5 = .int .i64 y ∧ e 6 = .int .i64 r ∧ e 7 = .lbox 0 [.int .i64 lo, .int .i64 hi] ∧ e 9 = .lbox 0 [.int .i64 (r * lo), .int .i64 (r * hi)] ∧ e 10 = .int .i64 0 ∧
      e 13 = .int .i64 k ∧ e 11 = .int .i64 (leastTo b y k) ∧ e 12 = .int .i64 (mostTo b y k)) b.ms.length ?_ ?_ 0 _ _ (by omega) ⟨rfl, rfl, rfl, rfl, rfl, rfl, rfl, rfl, rfl⟩))
    · rintro k e h hk ⟨e2, e5, e6, e7, e9, e10, e13, e11, e12⟩
      have hw : IntKind.wrap .i64 ((k : Int) + 1) = k + 1 := wrap_id (by omega) (by omega)
      have hm : b.ms[k]? = some b.ms[k] := List.getElem?_eq_getElem hk
      have c6 := c19 b hb k
      rw [yards_ok hok hk, hc] at c6
      simp only [if_true, spanV] at c6
      have f1 := lm_bd hok hc y k (by omega)
      obtain ⟨s1, s2, s3, _⟩ := yard_span hok hc hk
      have l1 : leastTo b y (k + 1) = leastTo b y k + (if b.ms[k].c = y then yLo b k else 0) := by simp only [leastTo, hm]
      have l2 : mostTo b y (k + 1) = mostTo b y k + (if b.ms[k].c = y then yHi b k else 0) := by simp only [mostTo, hm]
      simp only [yLo, yHi] at l1 l2
      generalize (tell (yardF k) b.T).1 = a at *
      generalize (tell (yardF k) b.T).2 = d at *
      have hw3 : IntKind.wrap .i64 (leastTo b y k + a) = leastTo b y k + a := wrap_id (by omega) (by omega)
      have hw4 : IntKind.wrap .i64 (mostTo b y k + d) = mostTo b y k + d := wrap_id (by omega) (by omega)
      generalize hmm : b.ms[k] = m at *
      by_cases hq : m.c = y
      · simp [g12_macadamlaw03_StoneOwed_l0, e2, e5, e6, e7, e9, e10, e13, e11, e12, hk, hmm, hq, c6, hw, hw3, hw4, l1, l2]
      · simp [g12_macadamlaw03_StoneOwed_l0, e2, e5, e6, e7, e9, e10, e13, e11, e12, hk, hmm, hq, c6, hw, l1, l2]
    · rintro e h ⟨e2, e5, e6, e7, e9, e10, e13, e11, e12⟩
      have c7 := c43 (leastTo b y b.ms.length) (mostTo b y b.ms.length) lo hi
      rw [decide_eq_true (by omega)] at c7
      simp [g12_macadamlaw03_StoneOwed_l0, e2, e5, e6, e7, e9, e10, e13, e11, e12, onB, onN, hw1, hw2, c44, c7, q3, c23, results, rdRess, rdRes]
end Av
end

section
/- StoneOwed returns true for every input, and its input reads as it did: no condition. -/
namespace Go.Proofs.YtpjhmbfpfbpciaaDoor.stoneOwedProof
open Go Go.Proofs Go.Proofs.YtpjhmbfpfbpciaaDoor Go.ChangeShapes Go.WideShapes Go.ChangeAt Go.RowKit Av
set_option linter.constructorNameAsVariable false
set_option linter.unusedVariables false
set_option maxRecDepth 20000

theorem contract (H : Type) (enc : TypeId × Value → H) (W : World) (base : Nat) (args : Array Value) (ds gs : List (DataW H)) (before : List MemPlace)
    (hval : ∀ (j : Nat) t v, Tryd.f12.params[j]? = some t → args[j]? = some v → Value.okWide Tryd.prog W .any base t v)
    (hW : DataW.Whole enc Tryd.prog Tryd.f12.params.toList Rows.stoneOwedSpec.vars false W args.toList ds gs before) (hL : Globs W) :
    Calls Tryd.prog 12 args W fun e W' => ∃ v, e = .returned v ∧ Rows.stoneOwedSpec.post enc Tryd.prog Tryd.f12 false true false false W args v W' := by
  have hW' := hW
  have hlt := fun p hp => hW.lt p hp
  obtain ⟨p, q, hA0, hV, rfl, hfz, hnd⟩ := hW
  have hA : DataW.TrodAll enc Tryd.prog W 0 (fun _ => true) true Tryd.f12.params.toList args.toList ds p := hA0
  rw [Tryd.params12] at hA hval
  obtain ⟨v0, vs0, d0, ds0, p0, q0, hargs, rfl, rfl, h0, r0⟩ := trodAll_cons hA
  obtain ⟨v1, vs1, d1, ds1, p1, q1, rfl, rfl, rfl, h1, r1⟩ := trodAll_cons r0
  obtain ⟨rfl, rfl, rfl⟩ := trodAll_nil r1
  obtain rfl : args = #[v0, v1] := by cases args; simp_all
  obtain ⟨rfl, rfl⟩ := trodVars_none hV
  obtain ⟨hs, ms, ls, w1, w2, w3, hVR0⟩ := book_open (hval 0 26 v0 rfl rfl) h0
  obtain ⟨b, hb, hbv⟩ := bk_of w1 w2 w3
  rw [hbv] at hVR0
  obtain ⟨ns1, z1, hVR1⟩ := arr_open u39 t39 (hval 1 39 v1 rfl rfl) h1
  obtain ⟨z1, _⟩ := z1
  obtain ⟨n10, n11, rfl⟩ : ∃ n10 n11, ns1 = [n10, n11] := by
    match ns1, z1 with
    | [n10, n11], _ => exact ⟨_, _, rfl⟩
  obtain ⟨h', hx⟩ := law12 b hb n10 n11
  refine (law_ok (start_ok hL.1 hL.2.1 hL.2.2.1 hL.2.2.2) (by omega) hx (.cons hVR0 (.cons hVR1 .nil))).mono fun e W' ⟨he, hg, hsame⟩ => ?_
  subst he
  simp only [List.append_nil, List.nil_append] at hW' hlt
  have hq : ∀ (i : MemPlace), i ∈ (p0 ++ (p1 ++ [])) → i.block < W.heap.size := fun i hi => hlt i (by simpa using hi)
  have harg : ∀ sp : Nat → Bool, (∀ p ∈ (p0 ++ (p1 ++ [])), sp p.block = true) → DataW.TrodAll enc Tryd.prog W' 0 sp true [26, 39] [v0, v1] [d0, d1] (p0 ++ (p1 ++ [])) := fun sp hsp =>
    (trodAll_cons_mk (trod_stay1 rec26 row26 h0 hsame (fun p hp => hq p (by simp [hp])) fun p hp => hsp p (by simp [hp])) (trodAll_cons_mk (trod_stay1 rec39 row39 h1 hsame (fun p hp => hq p (by simp [hp])) fun p hp => hsp p (by simp [hp])) trodAll_mk0))
  exact ⟨_, rfl, post_of_same (pa := (p0 ++ (p1 ++ []))) (pv := []) hW' (fun _ _ _ => trodAll_cons_mk (shut_bool Tryd.underlying4 _) trodAll_mk0) (fun sp hsp => harg sp (by simpa using hsp)) (fun _ _ => rfl) (by simp)
    (hg.frame _) hg.2.1 (ok_one (by kernel_rfl) rfl (okWide_bool_mk Tryd.underlying4 _))⟩

theorem met (os : Os) : laidMetH Tryd.prog Rows.stoneOwedRow.laid ((laidWorld os).forCall (fun _ _ => 0) ⟨#[], #[bookZ, .agg #[.int .i64 0, .int .i64 0]], []⟩).memory :=
  laidMetH_of_parts3 (fuel := 8) (laidMet_of_run' 8 (by kernel_rfl) (by kernel_rfl)) (by kernel_rfl) (by kernel_rfl)
theorem reads (os : Os) {H : Type} (enc : TypeId × Value → H) : ∃ places, DataW.whole enc Tryd.prog ((laidWorld os).forCall (fun _ _ => 0) ⟨#[], #[bookZ, .agg #[.int .i64 0, .int .i64 0]], []⟩).memory Tryd.f12.params.toList Rows.stoneOwedSpec.vars false (#[bookZ, .agg #[.int .i64 0, .int .i64 0]] : Array Value).toList 8 = some ([bookD, .agg [.lit (.int .i64 0), .lit (.int .i64 0)]], [], places) :=
  ⟨[], by kernel_rfl⟩
set_option maxRecDepth 100000 in
theorem lifted (os : Os) (started : os.Started) (H : Type) (enc : TypeId × Value → H) (F : Stop.Interp) :
    ReturnsInHanded {} Tryd.checked os 12 .any ((OpenSpec.ofChange Rows.stoneOwedSpec).preRow enc Tryd.prog Tryd.f12 Rows.stoneOwedRow.domain false Rows.stoneOwedRow.laid) (((OpenSpec.ofChange Rows.stoneOwedSpec).at F).post enc Tryd.prog Tryd.f12 false true false false) := by
  obtain ⟨places, hx⟩ := reads os enc
  refine returnsInHanded_of_row (C := Tryd.checked) (s := OpenSpec.ofChange Rows.stoneOwedSpec) ownK started (by kernel_rfl) Tryd.func12
    (witness_row_at (enc := enc) (C := Tryd.checked) false (laidWorld os) #[bookZ, .agg #[.int .i64 0, .int .i64 0]] rfl (by kernel_rfl) (by kernel_rfl) (by kernel_rfl)
      (OpenSpec.preRow_of_cond 8 hx (by kernel_rfl) (fun k hk => by cases hk) (by kernel_rfl) (met os))) ?_
  intro W base args ds gs before hval hW _ _ _ hL _ _
  exact contract H enc W base args ds gs before hval hW (globs_of hL)
theorem said : Rows.StoneOwedSaid :=
  OpenClaim.holds_of_cond 12 Tryd.f12 rfl rfl rfl rfl rfl rfl rfl ⟨rfl, rfl, rfl, rfl, rfl⟩ rfl rfl rfl rfl rfl (by kernel_rfl) Tryd.func12 (by kernel_rfl)
    (of_decide_eq_true (by kernel_rfl)) (by unfold Func.isWrapper; first | (rw [if_pos (by decide +kernel)]; kernel_rfl) | (rw [if_neg (by decide +kernel)]; exact ⟨rfl, rfl⟩))
    (fun os started H enc _ F => by rw [OpenClaim.pre_eq_preRow]; exact lifted os started H enc F)
theorem plain (f : FuncId) (fn : Func) (hf : Tryd.pinned.checked.prog.funcNamed "macadam/macadamlaw03.StoneOwed" = some f) (hfn : Tryd.pinned.checked.prog.funcs[f]? = some fn) :
    false = Tryd.pinned.checked.prog.looks [] ∧ ∀ (j : Nat) t, fn.params[j]? = some t → Tryd.pinned.checked.prog.wantsStandIn t = false := by
  obtain rfl : f = 12 := Option.some.inj ((show Tryd.prog.funcNamed "macadam/macadamlaw03.StoneOwed" = some 12 by kernel_rfl).symm.trans hf) |>.symm
  obtain rfl : fn = Tryd.f12 := (Option.some.inj (Tryd.func12.symm.trans hfn)).symm
  refine ⟨by kernel_rfl, fun j t ht => ?_⟩
  rw [Tryd.params12] at ht
  have hm : t ∈ [26, 39] := by simpa using Array.mem_of_getElem? ht
  simp only [List.mem_cons, List.not_mem_nil, or_false] at hm
  rcases hm with rfl | rfl
  · exact want26
  · exact want39
theorem card : Rows.StoneOwedCardSaid :=
  Claim7.holds_tied_plain_at .later [] _ _ _ _ said (fun _ h => by cases h) (by kernel_rfl) (fun _ h => by cases h) stoneOwed_row_tie rfl ⟨rfl, rfl⟩ (by kernel_rfl) rfl plain (by kernel_rfl)
end Go.Proofs.YtpjhmbfpfbpciaaDoor.stoneOwedProof
namespace Go.Proofs.YtpjhmbfpfbpciaaDoor
theorem stoneOwed_card : Rows.StoneOwedCardSaid := stoneOwedProof.card
end Go.Proofs.YtpjhmbfpfbpciaaDoor
end

