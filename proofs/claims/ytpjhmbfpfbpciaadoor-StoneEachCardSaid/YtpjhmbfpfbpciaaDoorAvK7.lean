/- StoneEach returns true for every input, and its input reads as it did: no condition. -/
import Derived.Test.YtpjhmbfpfbpciaaDoorAvMH
import Derived.Test.YtpjhmbfpfbpciaaDoorAvMJ
import Derived.KernelRfl
set_option linter.all false
set_option linter.unusedSectionVars false
set_option linter.unusedVariables false
set_option linter.unusedSimpArgs false
section
/- The law of each number that fits. -/
set_option linter.unusedSimpArgs false
set_option linter.unusedVariables false
namespace Av
open Go (IntKind BinOp UnOp)
theorem law7 (b : Bk) (hb : b.fit) (n0 n1 : Int) : ∃ h', dcall pr (.fn 7 [] []) [b.v, .agg [.int .i64 n0, .int .i64 n1]] H.emp = some (.bool true, h') := by
  refine law_of fn7 rfl ?_
  have c1 := c35 b hb
  cases hok : b.ok with
  | false =>
    rw [hok] at c1
    simp [g7_macadamlaw03_StoneEach, g7_macadamlaw03_StoneEach_c, c1, c23, results, rdRess, rdRes]
  | true =>
  rw [hok] at c1
  have hlen := ok_len hok
  by_cases hm0 : b.ms.length = 0
  · simp [g7_macadamlaw03_StoneEach, g7_macadamlaw03_StoneEach_c, c1, c23, results, rdRess, rdRes, hm0]
  have hm0' : ¬ b.ms = [] := fun h => hm0 (by rw [h]; rfl)
  have c2 := c38 n0 b.ms.length (by omega)
  have c3 := c38 n1 7 (by omega)
  have w1 := wrapI_bd n0 (m := b.ms.length) (by omega)
  have w2 := wrapI_bd n1 (m := 7) (by omega)
  generalize wrapI n1 7 = y at *
  obtain ⟨k, hk⟩ := toInt w1.1
  rw [hk] at c2 w1
  have hkl : k < b.ms.length := by omega
  have c4 := c19 b hb k
  have c5 := c31 b hb k y
  rw [yards_ok hok hkl] at c4
  rw [fits_ok hok hkl (by omega)] at c5
  cases hc : b.c with
  | false =>
    rw [hc] at c4 c5
    simp at c4 c5
    simp [g7_macadamlaw03_StoneEach, g7_macadamlaw03_StoneEach_c, c1, c23, c2, c3, c4, c5, c41, results, rdRess, rdRes, hm0, hm0']
  | true =>
    rw [hc] at c4 c5
    simp only [if_true, spanV] at c4 c5
    obtain ⟨s1, s2, s3, s4, ⟨l, hl, s5⟩, ⟨l', hl', s6⟩⟩ := yard_span hok hc hkl
    have c6 := c31 b hb k (tell (yardF k) b.T).1
    have c7 := c31 b hb k (tell (yardF k) b.T).2
    rw [fits_ok hok hkl (by omega), hc, (any_iff hok).2 ⟨l, hl, by simpa using s5⟩] at c6
    rw [fits_ok hok hkl (by omega), hc, (any_iff hok).2 ⟨l', hl', by simpa using s6⟩] at c7
    have hmm : b.ms[k]? = some b.ms[k] := List.getElem?_eq_getElem hkl
    have hmo := ok_mv hok hmm
    have r1 := tr_right hl hmm
    have r2 := tr_right hl' hmm
    rw [s5] at r1
    rw [s6] at r2
    have hy : b.T.any (fun l => decide (l.getD k 0 = y)) = true → (tell (yardF k) b.T).1 ≤ y ∧ y ≤ (tell (yardF k) b.T).2 := by
      intro h
      obtain ⟨l, hl, h1⟩ := (any_iff hok).1 h
      have := s4 l hl
      simp only [decide_eq_true_eq] at h1
      rw [h1] at this; exact this
    simp only [if_true] at c6 c7
    generalize hlo : (tell (yardF k) b.T).1 = lo at *
    generalize hhi : (tell (yardF k) b.T).2 = hi at *
    have c8 := c42 lo hi 0 6 6 (by omega) (by omega)
    have c9 := c39 lo hi y
    rw [decide_eq_true (by omega)] at c8
    generalize hmg : b.ms[k] = m at *
    have hlb : 0 ≤ b.lie m.c ∧ b.lie m.c ≤ 2 := by
      have := ok_lies hok
      unfold Bk.lie; split
      · omega
      · split
        · omega
        · split <;> omega
    have hw : IntKind.wrap .i64 (m.n - b.lie m.c) = m.n - b.lie m.c := wrap_id (by omega) (by omega)
    have q1 : hi ≤ m.n := by omega
    have q2 : m.n - b.lie m.c ≤ lo := by omega
    have hmc4 : m.c = 0 ∨ m.c = 1 ∨ m.c = 2 ∨ m.c = 3 := by omega
    clear hlb r1 r2 s4 hmo
    rcases hmc4 with hmc | hmc | hmc | hmc
    all_goals
      rw [hmc] at q2 hw
      simp only [Bk.lie, reduceIte, Int.reduceEq] at q2 hw
      generalize hA : b.T.any (fun l => decide (l.getD k 0 = y)) = A at *
      cases A with
      | true =>
        have hyb := hy rfl
        rw [decide_eq_true (by omega)] at c9
        simp [g7_macadamlaw03_StoneEach, g7_macadamlaw03_StoneEach_c, c1, c23, c2, c3, c4, c5, c6, c7, c8, c9, results, rdRess, rdRes, hm0, hm0', hkl, hmg, hmc, hw, q1, q2]
      | false =>
        simp [g7_macadamlaw03_StoneEach, g7_macadamlaw03_StoneEach_c, c1, c23, c2, c3, c4, c5, c6, c7, c8, c9, results, rdRess, rdRes, hm0, hm0', hkl, hmg, hmc, hw, q1, q2]
end Av
end

section
/- StoneEach returns true for every input, and its input reads as it did: no condition. -/
namespace Go.Proofs.YtpjhmbfpfbpciaaDoor.stoneEachProof
open Go Go.Proofs Go.Proofs.YtpjhmbfpfbpciaaDoor Go.ChangeShapes Go.WideShapes Go.ChangeAt Go.RowKit Av
set_option linter.constructorNameAsVariable false
set_option linter.unusedVariables false
set_option maxRecDepth 20000

theorem contract (H : Type) (enc : TypeId × Value → H) (W : World) (base : Nat) (args : Array Value) (ds gs : List (DataW H)) (before : List MemPlace)
    (hval : ∀ (j : Nat) t v, Tryd.f7.params[j]? = some t → args[j]? = some v → Value.okWide Tryd.prog W .any base t v)
    (hW : DataW.Whole enc Tryd.prog Tryd.f7.params.toList Rows.stoneEachSpec.vars false W args.toList ds gs before) (hL : Globs W) :
    Calls Tryd.prog 7 args W fun e W' => ∃ v, e = .returned v ∧ Rows.stoneEachSpec.post enc Tryd.prog Tryd.f7 false true false false W args v W' := by
  have hW' := hW
  have hlt := fun p hp => hW.lt p hp
  obtain ⟨p, q, hA0, hV, rfl, hfz, hnd⟩ := hW
  have hA : DataW.TrodAll enc Tryd.prog W 0 (fun _ => true) true Tryd.f7.params.toList args.toList ds p := hA0
  rw [Tryd.params7] at hA hval
  obtain ⟨v0, vs0, d0, ds0, p0, q0, hargs, rfl, rfl, h0, r0⟩ := trodAll_cons hA
  obtain ⟨v1, vs1, d1, ds1, p1, q1, rfl, rfl, rfl, h1, r1⟩ := trodAll_cons r0
  obtain ⟨rfl, rfl, rfl⟩ := trodAll_nil r1
  obtain rfl : args = #[v0, v1] := by cases args; simp_all
  obtain ⟨rfl, rfl⟩ := trodVars_none hV
  obtain ⟨hs, ms, ls, w1, w2, w3, hVR0⟩ := book_open (hval 0 26 v0 rfl rfl) h0
  obtain ⟨b, hb, hbv⟩ := bk_of w1 w2 w3
  rw [hbv] at hVR0
  obtain ⟨ns1, z1, hVR1⟩ := arr_open u39 t39 (hval 1 39 v1 rfl rfl) h1
  obtain ⟨z1, _⟩ := z1
  obtain ⟨n10, n11, rfl⟩ : ∃ n10 n11, ns1 = [n10, n11] := by
    match ns1, z1 with
    | [n10, n11], _ => exact ⟨_, _, rfl⟩
  obtain ⟨h', hx⟩ := law7 b hb n10 n11
  refine (law_ok (start_ok hL.1 hL.2.1 hL.2.2.1 hL.2.2.2) (by omega) hx (.cons hVR0 (.cons hVR1 .nil))).mono fun e W' ⟨he, hg, hsame⟩ => ?_
  subst he
  simp only [List.append_nil, List.nil_append] at hW' hlt
  have hq : ∀ (i : MemPlace), i ∈ (p0 ++ (p1 ++ [])) → i.block < W.heap.size := fun i hi => hlt i (by simpa using hi)
  have harg : ∀ sp : Nat → Bool, (∀ p ∈ (p0 ++ (p1 ++ [])), sp p.block = true) → DataW.TrodAll enc Tryd.prog W' 0 sp true [26, 39] [v0, v1] [d0, d1] (p0 ++ (p1 ++ [])) := fun sp hsp =>
    (trodAll_cons_mk (trod_stay1 rec26 row26 h0 hsame (fun p hp => hq p (by simp [hp])) fun p hp => hsp p (by simp [hp])) (trodAll_cons_mk (trod_stay1 rec39 row39 h1 hsame (fun p hp => hq p (by simp [hp])) fun p hp => hsp p (by simp [hp])) trodAll_mk0))
  exact ⟨_, rfl, post_of_same (pa := (p0 ++ (p1 ++ []))) (pv := []) hW' (fun _ _ _ => trodAll_cons_mk (shut_bool Tryd.underlying4 _) trodAll_mk0) (fun sp hsp => harg sp (by simpa using hsp)) (fun _ _ => rfl) (by simp)
    (hg.frame _) hg.2.1 (ok_one (by kernel_rfl) rfl (okWide_bool_mk Tryd.underlying4 _))⟩

theorem met (os : Os) : laidMetH Tryd.prog Rows.stoneEachRow.laid ((laidWorld os).forCall (fun _ _ => 0) ⟨#[], #[bookZ, .agg #[.int .i64 0, .int .i64 0]], []⟩).memory :=
  laidMetH_of_parts3 (fuel := 8) (laidMet_of_run' 8 (by kernel_rfl) (by kernel_rfl)) (by kernel_rfl) (by kernel_rfl)
theorem reads (os : Os) {H : Type} (enc : TypeId × Value → H) : ∃ places, DataW.whole enc Tryd.prog ((laidWorld os).forCall (fun _ _ => 0) ⟨#[], #[bookZ, .agg #[.int .i64 0, .int .i64 0]], []⟩).memory Tryd.f7.params.toList Rows.stoneEachSpec.vars false (#[bookZ, .agg #[.int .i64 0, .int .i64 0]] : Array Value).toList 8 = some ([bookD, .agg [.lit (.int .i64 0), .lit (.int .i64 0)]], [], places) :=
  ⟨[], by kernel_rfl⟩
set_option maxRecDepth 100000 in
theorem lifted (os : Os) (started : os.Started) (H : Type) (enc : TypeId × Value → H) (F : Stop.Interp) :
    ReturnsInHanded {} Tryd.checked os 7 .any ((OpenSpec.ofChange Rows.stoneEachSpec).preRow enc Tryd.prog Tryd.f7 Rows.stoneEachRow.domain false Rows.stoneEachRow.laid) (((OpenSpec.ofChange Rows.stoneEachSpec).at F).post enc Tryd.prog Tryd.f7 false true false false) := by
  obtain ⟨places, hx⟩ := reads os enc
  refine returnsInHanded_of_row (C := Tryd.checked) (s := OpenSpec.ofChange Rows.stoneEachSpec) ownK started (by kernel_rfl) Tryd.func7
    (witness_row_at (enc := enc) (C := Tryd.checked) false (laidWorld os) #[bookZ, .agg #[.int .i64 0, .int .i64 0]] rfl (by kernel_rfl) (by kernel_rfl) (by kernel_rfl)
      (OpenSpec.preRow_of_cond 8 hx (by kernel_rfl) (fun k hk => by cases hk) (by kernel_rfl) (met os))) ?_
  intro W base args ds gs before hval hW _ _ _ hL _ _
  exact contract H enc W base args ds gs before hval hW (globs_of hL)
theorem said : Rows.StoneEachSaid :=
  OpenClaim.holds_of_cond 7 Tryd.f7 rfl rfl rfl rfl rfl rfl rfl ⟨rfl, rfl, rfl, rfl, rfl⟩ rfl rfl rfl rfl rfl (by kernel_rfl) Tryd.func7 (by kernel_rfl)
    (of_decide_eq_true (by kernel_rfl)) (by unfold Func.isWrapper; first | (rw [if_pos (by decide +kernel)]; kernel_rfl) | (rw [if_neg (by decide +kernel)]; exact ⟨rfl, rfl⟩))
    (fun os started H enc _ F => by rw [OpenClaim.pre_eq_preRow]; exact lifted os started H enc F)
theorem plain (f : FuncId) (fn : Func) (hf : Tryd.pinned.checked.prog.funcNamed "macadam/macadamlaw03.StoneEach" = some f) (hfn : Tryd.pinned.checked.prog.funcs[f]? = some fn) :
    false = Tryd.pinned.checked.prog.looks [] ∧ ∀ (j : Nat) t, fn.params[j]? = some t → Tryd.pinned.checked.prog.wantsStandIn t = false := by
  obtain rfl : f = 7 := Option.some.inj ((show Tryd.prog.funcNamed "macadam/macadamlaw03.StoneEach" = some 7 by kernel_rfl).symm.trans hf) |>.symm
  obtain rfl : fn = Tryd.f7 := (Option.some.inj (Tryd.func7.symm.trans hfn)).symm
  refine ⟨by kernel_rfl, fun j t ht => ?_⟩
  rw [Tryd.params7] at ht
  have hm : t ∈ [26, 39] := by simpa using Array.mem_of_getElem? ht
  simp only [List.mem_cons, List.not_mem_nil, or_false] at hm
  rcases hm with rfl | rfl
  · exact want26
  · exact want39
theorem card : Rows.StoneEachCardSaid :=
  Claim7.holds_tied_plain_at .later [] _ _ _ _ said (fun _ h => by cases h) (by kernel_rfl) (fun _ h => by cases h) stoneEach_row_tie rfl ⟨rfl, rfl⟩ (by kernel_rfl) rfl plain (by kernel_rfl)
end Go.Proofs.YtpjhmbfpfbpciaaDoor.stoneEachProof
namespace Go.Proofs.YtpjhmbfpfbpciaaDoor
theorem stoneEach_card : Rows.StoneEachCardSaid := stoneEachProof.card
end Go.Proofs.YtpjhmbfpfbpciaaDoor
end

