/- StoneHeap returns true for every input, and its input reads as it did: no condition. -/
import Derived.Test.YtpjhmbfpfbpciaaDoorAvMH
import Derived.Test.YtpjhmbfpfbpciaaDoorAvMJ
import Derived.KernelRfl
set_option linter.all false
set_option linter.unusedSectionVars false
set_option linter.unusedVariables false
set_option linter.unusedSimpArgs false
section
/- The law of a heap from place to place. -/
set_option linter.unusedSimpArgs false
set_option linter.unusedVariables false
namespace Av
open Go (IntKind BinOp UnOp)
theorem lowTo_ge (ms : List Mv) (l : List Int) (x lo : Int) (k j : Nat) (h : j < k) : - more ms l x j ≤ lowTo ms l x lo k := by
  induction k with
  | zero => omega
  | succ k ih =>
    simp only [lowTo]
    by_cases hj : j = k
    · subst hj; omega
    · have := ih (by omega); omega
/-- what a heap has in every truth -/
theorem heap_tr {b : Bk} (hok : b.ok = true) {l : List Int} (hl : Trn b l) {h : Nat} {x : Hp} (hx : b.hs[h]? = some x) :
    x.a ≤ b.firstLo l h x ∧ x.c ≤ b.firstLo l h x + more b.ms l h b.ms.length ∧ b.firstHi l h x ≤ x.b ∧ b.firstHi l h x + more b.ms l h b.ms.length ≤ x.d ∧ b.firstLo l h x ≤ b.firstHi l h x ∧
    (∀ k, k ≤ b.ms.length → 0 ≤ b.firstLo l h x + more b.ms l h k) := by
  have h1 := lowTo_bd b.ms hl.lok h (max x.a (x.c - more b.ms l h b.ms.length)) (b.ms.length + 1)
  have h2 := fits_iff.1 hl.fits h x hx
  have h3 : ∀ k, k ≤ b.ms.length → 0 ≤ b.firstLo l h x + more b.ms l h k := fun k hk => by
    have := lowTo_ge b.ms l h (max x.a (x.c - more b.ms l h b.ms.length)) (b.ms.length + 1) k (by omega)
    unfold Bk.firstLo; omega
  refine ⟨?_, ?_, ?_, ?_, h2, h3⟩
  · unfold Bk.firstLo; omega
  · unfold Bk.firstLo; omega
  · unfold Bk.firstHi; omega
  · unfold Bk.firstHi; omega
/-- the span of what is in a heap -/
theorem heap_span {b : Bk} (hok : b.ok = true) (hc : b.c = true) {h k : Nat} {x : Hp} (hx : b.hs[h]? = some x) (hk : k ≤ b.ms.length) :
    0 ≤ (tell (heapF b h k) b.T).1 ∧ (tell (heapF b h k) b.T).1 ≤ (tell (heapF b h k) b.T).2 ∧ (tell (heapF b h k) b.T).2 ≤ 200 ∧
    (∀ l, Trn b l → (tell (heapF b h k) b.T).1 ≤ b.firstLo l h x + more b.ms l h k ∧ b.firstHi l h x + more b.ms l h k ≤ (tell (heapF b h k) b.T).2) ∧
    (∃ l, Trn b l ∧ (tell (heapF b h k) b.T).1 = b.firstLo l h x + more b.ms l h k) ∧ (∃ l, Trn b l ∧ (tell (heapF b h k) b.T).2 = b.firstHi l h x + more b.ms l h k) := by
  have hlen := ok_len hok
  obtain ⟨h1, ⟨l, hl, h2⟩, ⟨l', hl', h3⟩⟩ := tell_T hok hc (heapF b h k)
  have hxo := ok_hp hok hx
  have hF : ∀ l, heapF b h k l = (b.firstLo l h x + more b.ms l h k, b.firstHi l h x + more b.ms l h k) := fun l => by simp only [heapF, hx]
  simp only [hF] at h1 h2 h3
  have g1 := heap_tr hok hl hx
  have g2 := heap_tr hok hl' hx
  have g3 := h1 l hl
  have g5 := more_bd b.ms hl'.lok h k
  have g6 := g1.2.2.2.2.2 k hk
  have g7 := h1 l' hl'
  refine ⟨by omega, ?_, by omega, h1, ⟨l, hl, h2⟩, ⟨l', hl', h3⟩⟩
  have := g1.2.2.2.2.1
  omega
theorem law8 (b : Bk) (hb : b.fit) (n0 n1 : Int) : ∃ h', dcall pr (.fn 8 [] []) [b.v, .agg [.int .i64 n0, .int .i64 n1]] H.emp = some (.bool true, h') := by
  refine law_of fn8 rfl ?_
  have c1 := c35 b hb
  cases hok : b.ok with
  | false =>
    rw [hok] at c1
    simp [g8_macadamlaw03_StoneHeap, g8_macadamlaw03_StoneHeap_c, c1, c23, results, rdRess, rdRes]
  | true =>
  rw [hok] at c1
  have hlen := ok_len hok
  have c2 := c38 n0 b.hs.length (by omega)
  have c3 := c38 n1 (b.ms.length + 1) (by omega)
  have w1 := wrapI_bd n0 (m := b.hs.length) (by omega)
  have w2 := wrapI_bd n1 (m := b.ms.length + 1) (by omega)
  have hw0 : IntKind.wrap .i64 ((b.ms.length : Int) + 1) = b.ms.length + 1 := wrap_id (by omega) (by omega)
  obtain ⟨h, hh⟩ := toInt w1.1
  obtain ⟨k, hk⟩ := toInt w2.1
  rw [hh] at c2 w1
  rw [hk] at c3 w2
  have hhl : h < b.hs.length := by omega
  have hkl : k ≤ b.ms.length := by omega
  have c4 := c21 b hb h ((0 : Nat) : Int)
  have c5 := c21 b hb h b.ms.length
  have c6 := c21 b hb h k
  rw [heap_ok hok hhl (by omega)] at c4 c5 c6
  simp only [Int.natCast_zero] at c4
  cases hc : b.c with
  | false =>
    rw [hc] at c4 c5 c6
    simp at c4 c5 c6
    simp [g8_macadamlaw03_StoneHeap, g8_macadamlaw03_StoneHeap_c, c1, c23, c2, c3, c4, c5, c6, hw0, results, rdRess, rdRes]
  | true =>
    rw [hc] at c4 c5 c6
    simp only [if_true, spanV] at c4 c5 c6
    have hx : b.hs[h]? = some b.hs[h] := List.getElem?_eq_getElem hhl
    obtain ⟨a1, a2, a3, a4, ⟨l1, a5, a6⟩, ⟨l2, a7, a8⟩⟩ := heap_span hok hc hx (k := 0) (by omega)
    obtain ⟨d1, d2, d3, d4, ⟨l3, d5, d6⟩, ⟨l4, d7, d8⟩⟩ := heap_span hok hc hx (k := b.ms.length) (by omega)
    obtain ⟨e1, e2, e3, e4, ⟨l5, e5, e6⟩, ⟨l6, e7, e8⟩⟩ := heap_span hok hc hx (k := k) hkl
    have t1 := heap_tr hok a5 hx
    have t2 := heap_tr hok a7 hx
    have t3 := heap_tr hok d5 hx
    have t4 := heap_tr hok d7 hx
    have f1 := c43 b.hs[h].a b.hs[h].b (tell (heapF b h 0) b.T).1 (tell (heapF b h 0) b.T).2
    have f2 := c43 b.hs[h].c b.hs[h].d (tell (heapF b h b.ms.length) b.T).1 (tell (heapF b h b.ms.length) b.T).2
    rw [decide_eq_true (by rw [a6, a8]; simp only [more]; omega)] at f1
    rw [decide_eq_true (by rw [d6, d8]; omega)] at f2
    generalize hgx : b.hs[h] = x at *
    by_cases hkm : k = b.ms.length
    · subst hkm
      generalize (tell (heapF b h 0) b.T).1 = A at *
      generalize (tell (heapF b h 0) b.T).2 = B at *
      generalize (tell (heapF b h b.ms.length) b.T).1 = C at *
      generalize (tell (heapF b h b.ms.length) b.T).2 = D at *
      have q1 : ¬ C < 0 := by omega
      have q2 : ¬ D < C := by omega
      simp [g8_macadamlaw03_StoneHeap, g8_macadamlaw03_StoneHeap_c, c1, c23, c2, c3, c4, c5, c6, hw0, hgx, hhl, f1, f2, q1, q2, results, rdRess, rdRes]
    · have hkl2 : k < b.ms.length := by omega
      have hkm2 : ¬ (k : Int) = b.ms.length := by omega
      have c7 := c21 b hb h ((k + 1 : Nat) : Int)
      have c8 := c19 b hb k
      rw [heap_ok hok hhl (by omega), hc] at c7
      rw [yards_ok hok hkl2, hc] at c8
      simp only [if_true, spanV] at c7 c8
      obtain ⟨i1, i2, i3, i4, ⟨l7, i5, i6⟩, ⟨l8, i7, i8⟩⟩ := heap_span hok hc hx (k := k + 1) (by omega)
      obtain ⟨s1, s2, s3, s4, _⟩ := yard_span hok hc hkl2
      have hm : b.ms[k]? = some b.ms[k] := List.getElem?_eq_getElem hkl2
      have hmo := ok_mv hok hm
      have u1 := e4 l7 i5
      have u2 := e4 l8 i7
      have u3 := s4 l7 i5
      have u4 := s4 l8 i7
      have r1 : ∀ l, more b.ms l h (k + 1) = more b.ms l h k + (b.ms[k].off h (l.getD k 0) + b.ms[k].onto h (l.getD k 0)) := fun l => by simp only [more, hm]
      rw [r1] at i6 i8
      simp only [Mv.off, Mv.onto] at i6 i8
      generalize hgm : b.ms[k] = m at *
      generalize (tell (heapF b h 0) b.T).1 = A at *
      generalize (tell (heapF b h 0) b.T).2 = B at *
      generalize (tell (heapF b h b.ms.length) b.T).1 = C at *
      generalize (tell (heapF b h b.ms.length) b.T).2 = D at *
      generalize (tell (heapF b h k) b.T).1 = E at *
      generalize (tell (heapF b h k) b.T).2 = F at *
      generalize (tell (heapF b h (k + 1)) b.T).1 = G at *
      generalize (tell (heapF b h (k + 1)) b.T).2 = J at *
      generalize (tell (yardF k) b.T).1 = P at *
      generalize (tell (yardF k) b.T).2 = Q at *
      have q1 : ¬ E < 0 := by omega
      have q2 : ¬ F < E := by omega
      have hw1 : IntKind.wrap .i64 ((k : Int) + 1) = k + 1 := wrap_id (by omega) (by omega)
      have hw2 : IntKind.wrap .i64 (-P) = -P := wrap_id (by omega) (by omega)
      have hw3 : IntKind.wrap .i64 (-Q) = -Q := wrap_id (by omega) (by omega)
      push_cast at c7
      by_cases hf : m.f = (h : Int)
      · have ht : ¬ m.t = (h : Int) := by omega
        rw [if_pos hf, if_neg ht] at i6 i8
        have v1 := c45 E F (-Q) (-P) (by omega) (by omega) (by omega) (by omega)
        have v2 := c43 (E + -Q) (F + -P) G J
        rw [decide_eq_true (by omega)] at v2
        simp [g8_macadamlaw03_StoneHeap, g8_macadamlaw03_StoneHeap_c, c1, c23, c2, c3, c4, c5, c6, c7, c8, c41, c44, hw0, hgx, hhl, f1, f2, q1, q2, hkm2, hkl2, hgm, hw1, hw2, hw3, hf, v1, v2, results, rdRess, rdRes]
      · by_cases ht : m.t = (h : Int)
        · rw [if_neg hf, if_pos ht] at i6 i8
          have hf' : ¬ (h : Int) = m.f := fun h => hf h.symm
          have v1 := c45 E F P Q (by omega) (by omega) (by omega) (by omega)
          have v2 := c43 (E + P) (F + Q) G J
          rw [decide_eq_true (by omega)] at v2
          simp [g8_macadamlaw03_StoneHeap, g8_macadamlaw03_StoneHeap_c, c1, c23, c2, c3, c4, c5, c6, c7, c8, c41, c44, hw0, hgx, hhl, f1, f2, q1, q2, hkm2, hkl2, hgm, hw1, hw2, hw3, hf', ht, v1, v2, results, rdRess, rdRes]
        · rw [if_neg hf, if_neg ht] at i6 i8
          have hf' : ¬ (h : Int) = m.f := fun h => hf h.symm
          have ht' : ¬ (h : Int) = m.t := fun h => ht h.symm
          have v1 := c45 E F 0 0 (by omega) (by omega) (by omega) (by omega)
          have v2 := c43 (E + 0) (F + 0) G J
          rw [decide_eq_true (by omega)] at v2
          simp only [Int.add_zero] at v1 v2
          simp [g8_macadamlaw03_StoneHeap, g8_macadamlaw03_StoneHeap_c, c1, c23, c2, c3, c4, c5, c6, c7, c8, c41, c44, hw0, hgx, hhl, f1, f2, q1, q2, hkm2, hkl2, hgm, hw1, hw2, hw3, hf', ht', v1, v2, results, rdRess, rdRes]
end Av
end

section
/- StoneHeap returns true for every input, and its input reads as it did: no condition. -/
namespace Go.Proofs.YtpjhmbfpfbpciaaDoor.stoneHeapProof
open Go Go.Proofs Go.Proofs.YtpjhmbfpfbpciaaDoor Go.ChangeShapes Go.WideShapes Go.ChangeAt Go.RowKit Av
set_option linter.constructorNameAsVariable false
set_option linter.unusedVariables false
set_option maxRecDepth 20000

theorem contract (H : Type) (enc : TypeId × Value → H) (W : World) (base : Nat) (args : Array Value) (ds gs : List (DataW H)) (before : List MemPlace)
    (hval : ∀ (j : Nat) t v, Tryd.f8.params[j]? = some t → args[j]? = some v → Value.okWide Tryd.prog W .any base t v)
    (hW : DataW.Whole enc Tryd.prog Tryd.f8.params.toList Rows.stoneHeapSpec.vars false W args.toList ds gs before) (hL : Globs W) :
    Calls Tryd.prog 8 args W fun e W' => ∃ v, e = .returned v ∧ Rows.stoneHeapSpec.post enc Tryd.prog Tryd.f8 false true false false W args v W' := by
  have hW' := hW
  have hlt := fun p hp => hW.lt p hp
  obtain ⟨p, q, hA0, hV, rfl, hfz, hnd⟩ := hW
  have hA : DataW.TrodAll enc Tryd.prog W 0 (fun _ => true) true Tryd.f8.params.toList args.toList ds p := hA0
  rw [Tryd.params8] at hA hval
  obtain ⟨v0, vs0, d0, ds0, p0, q0, hargs, rfl, rfl, h0, r0⟩ := trodAll_cons hA
  obtain ⟨v1, vs1, d1, ds1, p1, q1, rfl, rfl, rfl, h1, r1⟩ := trodAll_cons r0
  obtain ⟨rfl, rfl, rfl⟩ := trodAll_nil r1
  obtain rfl : args = #[v0, v1] := by cases args; simp_all
  obtain ⟨rfl, rfl⟩ := trodVars_none hV
  obtain ⟨hs, ms, ls, w1, w2, w3, hVR0⟩ := book_open (hval 0 26 v0 rfl rfl) h0
  obtain ⟨b, hb, hbv⟩ := bk_of w1 w2 w3
  rw [hbv] at hVR0
  obtain ⟨ns1, z1, hVR1⟩ := arr_open u39 t39 (hval 1 39 v1 rfl rfl) h1
  obtain ⟨z1, _⟩ := z1
  obtain ⟨n10, n11, rfl⟩ : ∃ n10 n11, ns1 = [n10, n11] := by
    match ns1, z1 with
    | [n10, n11], _ => exact ⟨_, _, rfl⟩
  obtain ⟨h', hx⟩ := law8 b hb n10 n11
  refine (law_ok (start_ok hL.1 hL.2.1 hL.2.2.1 hL.2.2.2) (by omega) hx (.cons hVR0 (.cons hVR1 .nil))).mono fun e W' ⟨he, hg, hsame⟩ => ?_
  subst he
  simp only [List.append_nil, List.nil_append] at hW' hlt
  have hq : ∀ (i : MemPlace), i ∈ (p0 ++ (p1 ++ [])) → i.block < W.heap.size := fun i hi => hlt i (by simpa using hi)
  have harg : ∀ sp : Nat → Bool, (∀ p ∈ (p0 ++ (p1 ++ [])), sp p.block = true) → DataW.TrodAll enc Tryd.prog W' 0 sp true [26, 39] [v0, v1] [d0, d1] (p0 ++ (p1 ++ [])) := fun sp hsp =>
    (trodAll_cons_mk (trod_stay1 rec26 row26 h0 hsame (fun p hp => hq p (by simp [hp])) fun p hp => hsp p (by simp [hp])) (trodAll_cons_mk (trod_stay1 rec39 row39 h1 hsame (fun p hp => hq p (by simp [hp])) fun p hp => hsp p (by simp [hp])) trodAll_mk0))
  exact ⟨_, rfl, post_of_same (pa := (p0 ++ (p1 ++ []))) (pv := []) hW' (fun _ _ _ => trodAll_cons_mk (shut_bool Tryd.underlying4 _) trodAll_mk0) (fun sp hsp => harg sp (by simpa using hsp)) (fun _ _ => rfl) (by simp)
    (hg.frame _) hg.2.1 (ok_one (by kernel_rfl) rfl (okWide_bool_mk Tryd.underlying4 _))⟩

theorem met (os : Os) : laidMetH Tryd.prog Rows.stoneHeapRow.laid ((laidWorld os).forCall (fun _ _ => 0) ⟨#[], #[bookZ, .agg #[.int .i64 0, .int .i64 0]], []⟩).memory :=
  laidMetH_of_parts3 (fuel := 8) (laidMet_of_run' 8 (by kernel_rfl) (by kernel_rfl)) (by kernel_rfl) (by kernel_rfl)
theorem reads (os : Os) {H : Type} (enc : TypeId × Value → H) : ∃ places, DataW.whole enc Tryd.prog ((laidWorld os).forCall (fun _ _ => 0) ⟨#[], #[bookZ, .agg #[.int .i64 0, .int .i64 0]], []⟩).memory Tryd.f8.params.toList Rows.stoneHeapSpec.vars false (#[bookZ, .agg #[.int .i64 0, .int .i64 0]] : Array Value).toList 8 = some ([bookD, .agg [.lit (.int .i64 0), .lit (.int .i64 0)]], [], places) :=
  ⟨[], by kernel_rfl⟩
set_option maxRecDepth 100000 in
theorem lifted (os : Os) (started : os.Started) (H : Type) (enc : TypeId × Value → H) (F : Stop.Interp) :
    ReturnsInHanded {} Tryd.checked os 8 .any ((OpenSpec.ofChange Rows.stoneHeapSpec).preRow enc Tryd.prog Tryd.f8 Rows.stoneHeapRow.domain false Rows.stoneHeapRow.laid) (((OpenSpec.ofChange Rows.stoneHeapSpec).at F).post enc Tryd.prog Tryd.f8 false true false false) := by
  obtain ⟨places, hx⟩ := reads os enc
  refine returnsInHanded_of_row (C := Tryd.checked) (s := OpenSpec.ofChange Rows.stoneHeapSpec) ownK started (by kernel_rfl) Tryd.func8
    (witness_row_at (enc := enc) (C := Tryd.checked) false (laidWorld os) #[bookZ, .agg #[.int .i64 0, .int .i64 0]] rfl (by kernel_rfl) (by kernel_rfl) (by kernel_rfl)
      (OpenSpec.preRow_of_cond 8 hx (by kernel_rfl) (fun k hk => by cases hk) (by kernel_rfl) (met os))) ?_
  intro W base args ds gs before hval hW _ _ _ hL _ _
  exact contract H enc W base args ds gs before hval hW (globs_of hL)
theorem said : Rows.StoneHeapSaid :=
  OpenClaim.holds_of_cond 8 Tryd.f8 rfl rfl rfl rfl rfl rfl rfl ⟨rfl, rfl, rfl, rfl, rfl⟩ rfl rfl rfl rfl rfl (by kernel_rfl) Tryd.func8 (by kernel_rfl)
    (of_decide_eq_true (by kernel_rfl)) (by unfold Func.isWrapper; first | (rw [if_pos (by decide +kernel)]; kernel_rfl) | (rw [if_neg (by decide +kernel)]; exact ⟨rfl, rfl⟩))
    (fun os started H enc _ F => by rw [OpenClaim.pre_eq_preRow]; exact lifted os started H enc F)
theorem plain (f : FuncId) (fn : Func) (hf : Tryd.pinned.checked.prog.funcNamed "macadam/macadamlaw03.StoneHeap" = some f) (hfn : Tryd.pinned.checked.prog.funcs[f]? = some fn) :
    false = Tryd.pinned.checked.prog.looks [] ∧ ∀ (j : Nat) t, fn.params[j]? = some t → Tryd.pinned.checked.prog.wantsStandIn t = false := by
  obtain rfl : f = 8 := Option.some.inj ((show Tryd.prog.funcNamed "macadam/macadamlaw03.StoneHeap" = some 8 by kernel_rfl).symm.trans hf) |>.symm
  obtain rfl : fn = Tryd.f8 := (Option.some.inj (Tryd.func8.symm.trans hfn)).symm
  refine ⟨by kernel_rfl, fun j t ht => ?_⟩
  rw [Tryd.params8] at ht
  have hm : t ∈ [26, 39] := by simpa using Array.mem_of_getElem? ht
  simp only [List.mem_cons, List.not_mem_nil, or_false] at hm
  rcases hm with rfl | rfl
  · exact want26
  · exact want39
theorem card : Rows.StoneHeapCardSaid :=
  Claim7.holds_tied_plain_at .later [] _ _ _ _ said (fun _ h => by cases h) (by kernel_rfl) (fun _ h => by cases h) stoneHeap_row_tie rfl ⟨rfl, rfl⟩ (by kernel_rfl) rfl plain (by kernel_rfl)
end Go.Proofs.YtpjhmbfpfbpciaaDoor.stoneHeapProof
namespace Go.Proofs.YtpjhmbfpfbpciaaDoor
theorem stoneHeap_card : Rows.StoneHeapCardSaid := stoneHeapProof.card
end Go.Proofs.YtpjhmbfpfbpciaaDoor
end

