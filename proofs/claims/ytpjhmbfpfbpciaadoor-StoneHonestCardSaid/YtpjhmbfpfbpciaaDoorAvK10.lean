/- StoneHonest returns true for every input, and its input reads as it did: no condition. -/
import Derived.Test.YtpjhmbfpfbpciaaDoorAvMH
import Derived.Test.YtpjhmbfpfbpciaaDoorAvMJ
import Derived.KernelRfl
set_option linter.all false
set_option linter.unusedSectionVars false
set_option linter.unusedVariables false
set_option linter.unusedSimpArgs false
section
/- Who surely told too many. -/
set_option linter.unusedSimpArgs false
set_option linter.unusedVariables false
namespace Av
open Go (IntKind BinOp UnOp)

theorem lied_bit {b : Bk} (hok : b.ok = true) (l : List Int) (c : Nat) (k : Nat) : (liedTo b.ms l k).testBit c = true ↔ ∃ j m, j < k ∧ b.ms[j]? = some m ∧ m.c = (c : Int) ∧ l.getD j 0 < m.n := by
  induction k with
  | zero => simp [liedTo]
  | succ k ih =>
    simp only [liedTo, Nat.testBit_or, Bool.or_eq_true, ih]
    constructor
    · rintro (⟨j, m, h1, h2⟩ | h)
      · exact ⟨j, m, by omega, h2⟩
      · cases hm : b.ms[k]? with
        | none => rw [hm] at h; simp at h
        | some m =>
          rw [hm] at h
          have hmo := ok_mv hok hm
          by_cases hq : l.getD k 0 < m.n
          · simp only [hq, if_true, Nat.testBit_two_pow, decide_eq_true_eq] at h
            exact ⟨k, m, by omega, hm, by omega, hq⟩
          · simp only [hq, if_false, Nat.zero_testBit] at h
            cases h
    · rintro ⟨j, m, h1, h2, h3, h4⟩
      by_cases hj : j = k
      · subst hj
        right
        rw [h2]
        simp only [h4, if_true, Nat.testBit_two_pow, decide_eq_true_eq]
        omega
      · exact .inl ⟨j, m, by omega, h2, h3, h4⟩
theorem run_bit (b : Bk) (c : Nat) (ls : List (List Int)) : ∀ s, ((run (liarSt b) s ls).1.testBit c = true ↔ s.testBit c = true ∧ ∀ l ∈ ls, (liedTo b.ms l b.ms.length).testBit c = true) := by
  induction ls with
  | nil => intro s; simp [run]
  | cons x ls ih =>
    intro s
    have : run (liarSt b) s (x :: ls) = run (liarSt b) (s &&& liedTo b.ms x b.ms.length) ls := by simp [run, liarSt]
    rw [this, ih, Nat.testBit_and, Bool.and_eq_true]
    simp only [List.mem_cons, forall_eq_or_imp, and_assoc]
theorem outs_mem (s k : Nat) (x : Int) : x ∈ outs s k ↔ ∃ c : Nat, c < k ∧ x = c ∧ s.testBit c = true := by
  simp only [outs, List.mem_map, List.mem_filter, List.mem_range, beq_iff_eq, Nat.testBit_eq_decide_div_mod_eq, decide_eq_true_eq]
  constructor
  · rintro ⟨c, ⟨h1, h2⟩, rfl⟩; exact ⟨c, h1, rfl, h2⟩
  · rintro ⟨c, h1, rfl, h2⟩; exact ⟨c, ⟨h1, h2⟩, rfl⟩
theorem outs_rising (s : Nat) : rising 4 (-1) (outs s 4) = true := by
  simp only [outs, show List.range 4 = [0, 1, 2, 3] from rfl, List.filter_cons, List.filter_nil]
  split <;> split <;> split <;> split <;> simp [rising]
def Bk.liarL (b : Bk) : List Int := outs (run (liarSt b) 15 b.T).1 4
theorem liars_eq {b : Bk} (hok : b.ok = true) : b.liars = if b.c then (b.liarL, 0) else ([], 32) := liars_ok hok
/-- a carter surely told too many if every truth says so -/
theorem liar_mem {b : Bk} (hok : b.ok = true) (c : Nat) (hc : c < 4) : (c : Int) ∈ b.liarL ↔ ∀ l, Trn b l → ∃ j m, b.ms[j]? = some m ∧ m.c = (c : Int) ∧ l.getD j 0 < m.n := by
  have h15 : Nat.testBit 15 c = true := by
    rcases (show c = 0 ∨ c = 1 ∨ c = 2 ∨ c = 3 by omega) with rfl | rfl | rfl | rfl <;> rfl
  rw [Bk.liarL, outs_mem]
  constructor
  · rintro ⟨c', h1, h2, h3⟩ l hl
    have : c' = c := by omega
    subst this
    have := ((run_bit b c' b.T 15).1 h3).2 l ((mem_all hok).2 hl)
    obtain ⟨j, m, _, h4⟩ := (lied_bit hok l c' _).1 this
    exact ⟨j, m, h4⟩
  · intro h
    refine ⟨c, hc, rfl, (run_bit b c b.T 15).2 ⟨h15, fun l hl => ?_⟩⟩
    obtain ⟨j, m, h4⟩ := h l ((mem_all hok).1 hl)
    exact (lied_bit hok l c _).2 ⟨j, m, (List.getElem?_eq_some_iff.1 h4.1).1, h4⟩
theorem liar_lt {b : Bk} {x : Int} (h : x ∈ b.liarL) : ∃ c : Nat, c < 4 ∧ x = c := by
  obtain ⟨c, h1, h2, _⟩ := (outs_mem _ _ _).1 h
  exact ⟨c, h1, h2⟩
theorem liar_len (b : Bk) : b.liarL.length ≤ 4 := outs_len _ _
end Av
end

section
/- The law of honest carters. -/
set_option linter.unusedSimpArgs false
set_option linter.unusedVariables false
namespace Av
open Go (IntKind BinOp UnOp)
def toldTo (ms : List Mv) (is : Mv → Bool) : Nat → Int
  | 0 => 0
  | k + 1 => toldTo ms is k + (match ms[k]? with | some m => if is m then m.n else 0 | none => 0)
theorem toldTo_bd {b : Bk} (hok : b.ok = true) (is) (k : Nat) : 0 ≤ toldTo b.ms is k ∧ toldTo b.ms is k ≤ 6 * (k : Int) := by
  induction k with
  | zero => simp [toldTo]
  | succ k ih =>
    simp only [toldTo]
    cases hm : b.ms[k]? with
    | none => constructor <;> simp <;> omega
    | some m =>
      have := ok_mv hok hm
      dsimp only; split <;> constructor <;> push_cast <;> omega
theorem told_all {ms : List Mv} {is : Mv → Bool} {l : List Int} (h : ∀ (k : Nat) (m : Mv), ms[k]? = some m → l.getD k 0 = m.n) (k : Nat) : allTo ms is l k = toldTo ms is k := by
  induction k with
  | zero => rfl
  | succ k ih =>
    simp only [allTo, toldTo, ih]
    cases hm : ms[k]? with
    | none => rfl
    | some m => simp only [h k m hm]
/-- the book without its lies -/
def Bk.hon (b : Bk) : Bk := ⟨b.hs, b.ms, 0, 0, 0, 0⟩
theorem hon_ok {b : Bk} (h : b.ok = true) : b.hon.ok = true := by
  simp only [Bk.ok, Bool.and_eq_true] at h ⊢
  exact ⟨h.1, by simp [lieOk, Bk.hon]⟩
theorem hon_told {b : Bk} {l : List Int} (h : Trn b.hon l) {k : Nat} {m : Mv} (hm : b.ms[k]? = some m) : l.getD k 0 = m.n := by
  have := tr_right (b := b.hon) h (k := k) (m := m) hm
  have h0 : b.hon.lie m.c = 0 := by simp [Bk.lie, Bk.hon]
  omega
theorem law10 (b : Bk) (hb : b.fit) (n0 n1 n2 : Int) : ∃ h', dcall pr (.fn 10 [] []) [b.v, .agg [.int .i64 n0, .int .i64 n1, .int .i64 n2]] H.emp = some (.bool true, h') := by
  refine law_of fn10 rfl ?_
  have c1 := c35 b hb
  cases hok : b.ok with
  | false =>
    rw [hok] at c1
    simp [g10_macadamlaw03_StoneHonest, g10_macadamlaw03_StoneHonest_c, c1, c23, results, rdRess, rdRes]
  | true =>
  rw [hok] at c1
  have hlen := ok_len hok
  have hx := hon_ok hok
  have c2 := c38 n1 4 (by omega)
  have c3 := c38 n2 100 (by omega)
  have w1 := wrapI_bd n1 (m := 4) (by omega)
  have w2 := wrapI_bd n2 (m := 100) (by omega)
  generalize wrapI n1 4 = y at *
  generalize wrapI n2 100 = r at *
  have c4 : icall pr (.fn 15 [] []) [.agg [.sl (hvs b.hs) .shut, .sl (mvs b.ms) .shut, .int .i64 0, .int .i64 0, .int .i64 0, .int .i64 0]] = _ := c15 b.hon (ok_fit hx)
  have c5 : icall pr (.fn 26 [] []) [.agg [.sl (hvs b.hs) .shut, .sl (mvs b.ms) .shut, .int .i64 0, .int .i64 0, .int .i64 0, .int .i64 0], .int .i64 y, .int .i64 r] = _ := c26 b.hon (ok_fit hx) y r
  have c6 : icall pr (.fn 28 [] []) [.agg [.sl (hvs b.hs) .shut, .sl (mvs b.ms) .shut, .int .i64 0, .int .i64 0, .int .i64 0, .int .i64 0]] = _ := c28 b.hon (ok_fit hx)
  have c7 : icall pr (.fn 24 [] []) [.agg [.sl (hvs b.hs) .shut, .sl (mvs b.ms) .shut, .int .i64 0, .int .i64 0, .int .i64 0, .int .i64 0]] = _ := c24 b.hon (ok_fit hx)
  rw [owed_ok hx (by omega) (by omega)] at c5
  rw [liars_eq hx] at c6
  rw [laid_ok hx] at c7
  have hcb : b.hon.can (inL []) = b.hon.c := rfl
  rw [hx, hcb] at c4
  cases hc : b.hon.c with
  | false =>
    rw [hc] at c4 c5 c6
    simp at c4 c5 c6
    simp [g10_macadamlaw03_StoneHonest, g10_macadamlaw03_StoneHonest_c, c1, c23, c2, c3, c4, c5, c6, results, rdRess, rdRes]
  | true =>
    rw [hc] at c4 c5 c6 c7
    simp only [if_true, spanV, Bool.and_self] at c4 c5 c6 c7
    have ht : ∀ is, tell (allF b.hon is) b.hon.T = (toldTo b.ms is b.ms.length, toldTo b.ms is b.ms.length) := by
      intro is
      obtain ⟨_, ⟨l, hl, s5⟩, ⟨l', hl', s6⟩⟩ := tell_T hx hc (allF b.hon is)
      have e1 : allF b.hon is l = (toldTo b.ms is b.ms.length, toldTo b.ms is b.ms.length) := by
        simp only [allF]; rw [show b.hon.ms = b.ms from rfl, told_all fun k m hm => hon_told hl hm]
      have e2 : allF b.hon is l' = (toldTo b.ms is b.ms.length, toldTo b.ms is b.ms.length) := by
        simp only [allF]; rw [show b.hon.ms = b.ms from rfl, told_all fun k m hm => hon_told hl' hm]
      rw [e1] at s5
      rw [e2] at s6
      exact Prod.ext s5 s6
    rw [ht] at c5 c7
    have hli : b.hon.liarL = [] := by
      rw [List.eq_nil_iff_forall_not_mem]
      intro x hxx
      obtain ⟨c, h1, rfl⟩ := liar_lt hxx
      obtain ⟨l, hl⟩ := (can_iff hx).1 hc
      obtain ⟨j, m, h2, _, h4⟩ := (liar_mem hx c h1).1 hxx l hl
      have := hon_told hl (show b.ms[j]? = some m from h2)
      omega
    rw [hli] at c6
    have bd1 := toldTo_bd hok (fun m => decide (m.c = y)) b.ms.length
    have mb := mul_bd (a := toldTo b.ms (fun m => decide (m.c = y)) b.ms.length) (r := r) (by omega) (by omega) w2.1 (by omega)
    simp only [iv_nil] at c6
    rw [Int.mul_comm] at mb
    simp only [Int.mul_comm _ r] at c5
    have hw1 : IntKind.wrap .i64 (r * toldTo b.ms (fun m => decide (m.c = y)) b.ms.length) = r * toldTo b.ms (fun m => decide (m.c = y)) b.ms.length := wrap_id (by omega) (by omega)
    simp [g10_macadamlaw03_StoneHonest, g10_macadamlaw03_StoneHonest_c, c1, c23, c2, c3, c4, c5, c6]
    refine wpr_seq (wpr_oblock (loop_up pr (fun k e h => e 2 = b.bx ∧ e 3 = .lbox 0 [.int .i64 n0, .int .i64 n1, .int .i64 n2] ∧ e 5 = .lbox 0 [.sl (hvs b.hs) .shut, .sl (mvs b.ms) .shut, .int .i64 0, .int .i64 0, .int .i64 0, .int .i64 0] ∧
      e 6 = .int .i64 y ∧ e 7 = .int .i64 r ∧ e 10 = .lbox 0 [.int .i64 (r * toldTo b.ms (fun m => decide (m.c = y)) b.ms.length), .int .i64 (r * toldTo b.ms (fun m => decide (m.c = y)) b.ms.length)] ∧ e 11 = .int .i64 0 ∧ e 12 = .sl [] .shut ∧ e 13 = .int .i64 0 ∧
      e 16 = .int .i64 k ∧ e 14 = .int .i64 (toldTo b.ms (fun m => decide (m.c = y)) k) ∧ e 15 = .int .i64 (toldTo b.ms (fun m => decide (m.t = -1)) k)) b.ms.length ?_ ?_ 0 _ _ (by omega) ⟨rfl, rfl, rfl, rfl, rfl, rfl, rfl, rfl, rfl, rfl, rfl, rfl⟩))
    · rintro k e h hk ⟨e2, e3, e5, e6, e7, e10, e11, e12, e13, e16, e14, e15⟩
      have hw : IntKind.wrap .i64 ((k : Int) + 1) = k + 1 := wrap_id (by omega) (by omega)
      have hm : b.ms[k]? = some b.ms[k] := List.getElem?_eq_getElem hk
      have hmo := ok_mv hok hm
      have d1 := toldTo_bd hok (fun m => decide (m.c = y)) k
      have d2 := toldTo_bd hok (fun m => decide (m.t = -1)) k
      have t1 : toldTo b.ms (fun m => decide (m.c = y)) (k + 1) = toldTo b.ms (fun m => decide (m.c = y)) k + (if b.ms[k].c = y then b.ms[k].n else 0) := by simp only [toldTo, hm, decide_eq_true_eq]
      have t2 : toldTo b.ms (fun m => decide (m.t = -1)) (k + 1) = toldTo b.ms (fun m => decide (m.t = -1)) k + (if b.ms[k].t = -1 then b.ms[k].n else 0) := by simp only [toldTo, hm, decide_eq_true_eq]
      generalize hmm : b.ms[k] = m at *
      have hw3 : IntKind.wrap .i64 (toldTo b.ms (fun m => decide (m.c = y)) k + m.n) = toldTo b.ms (fun m => decide (m.c = y)) k + m.n := wrap_id (by omega) (by omega)
      have hw4 : IntKind.wrap .i64 (toldTo b.ms (fun m => decide (m.t = -1)) k + m.n) = toldTo b.ms (fun m => decide (m.t = -1)) k + m.n := wrap_id (by omega) (by omega)
      by_cases q1 : m.c = y <;> by_cases q2 : m.t = -1
      · have q3 : m.t < 0 := by omega
        simp [g10_macadamlaw03_StoneHonest_l0, e2, e3, e5, e6, e7, e10, e11, e12, e13, e16, e14, e15, hk, hmm, q1, q2, q3, hw, hw3, hw4, t1, t2]
      · have q3 : ¬ m.t < 0 := by omega
        simp [g10_macadamlaw03_StoneHonest_l0, e2, e3, e5, e6, e7, e10, e11, e12, e13, e16, e14, e15, hk, hmm, q1, q2, q3, hw, hw3, hw4, t1, t2]
      · have q3 : m.t < 0 := by omega
        simp [g10_macadamlaw03_StoneHonest_l0, e2, e3, e5, e6, e7, e10, e11, e12, e13, e16, e14, e15, hk, hmm, q1, q2, q3, hw, hw3, hw4, t1, t2]
      · have q3 : ¬ m.t < 0 := by omega
        simp [g10_macadamlaw03_StoneHonest_l0, e2, e3, e5, e6, e7, e10, e11, e12, e13, e16, e14, e15, hk, hmm, q1, q2, q3, hw, hw3, hw4, t1, t2]
    · rintro e h ⟨e2, e3, e5, e6, e7, e10, e11, e12, e13, e16, e14, e15⟩
      by_cases hm0 : b.ms.length = 0
      · have hm0' : b.ms = [] := List.length_eq_zero_iff.1 hm0
        simp [g10_macadamlaw03_StoneHonest_l0, e2, e3, e5, e6, e7, e10, e11, e12, e13, e16, e14, e15, onB, onN, hw1, c7, c41, c23, hm0, toldTo, results, rdRess, rdRes]
      · have hm0' : ¬ b.ms = [] := fun h => hm0 (by rw [h]; rfl)
        have d2 := c38 n0 b.ms.length (by omega)
        have w3 := wrapI_bd n0 (m := b.ms.length) (by omega)
        obtain ⟨k, hk⟩ := toInt w3.1
        rw [hk] at d2 w3
        have hkl : k < b.ms.length := by omega
        have d3 : icall pr (.fn 19 [] []) [.agg [.sl (hvs b.hs) .shut, .sl (mvs b.ms) .shut, .int .i64 0, .int .i64 0, .int .i64 0, .int .i64 0], .int .i64 k] = _ := c19 b.hon (ok_fit hx) k
        rw [yards_ok hx (show k < b.hon.ms.length from hkl), hc] at d3
        have hm : b.ms[k]? = some b.ms[k] := List.getElem?_eq_getElem hkl
        obtain ⟨_, _, _, _, ⟨l, hl, s5⟩, ⟨l', hl', s6⟩⟩ := yard_span hx hc (show k < b.hon.ms.length from hkl)
        rw [hon_told hl hm] at s5
        rw [hon_told hl' hm] at s6
        simp only [if_true, spanV, ← s5, ← s6] at d3
        generalize hmm : b.ms[k] = m at *
        simp [g10_macadamlaw03_StoneHonest_l0, e2, e3, e5, e6, e7, e10, e11, e12, e13, e16, e14, e15, onB, onN, hw1, c7, c41, c23, d2, d3, hm0, hm0', hkl, hmm, results, rdRess, rdRes]
end Av
end

section
/- StoneHonest returns true for every input, and its input reads as it did: no condition. -/
namespace Go.Proofs.YtpjhmbfpfbpciaaDoor.stoneHonestProof
open Go Go.Proofs Go.Proofs.YtpjhmbfpfbpciaaDoor Go.ChangeShapes Go.WideShapes Go.ChangeAt Go.RowKit Av
set_option linter.constructorNameAsVariable false
set_option linter.unusedVariables false
set_option maxRecDepth 20000

theorem contract (H : Type) (enc : TypeId × Value → H) (W : World) (base : Nat) (args : Array Value) (ds gs : List (DataW H)) (before : List MemPlace)
    (hval : ∀ (j : Nat) t v, Tryd.f10.params[j]? = some t → args[j]? = some v → Value.okWide Tryd.prog W .any base t v)
    (hW : DataW.Whole enc Tryd.prog Tryd.f10.params.toList Rows.stoneHonestSpec.vars false W args.toList ds gs before) (hL : Globs W) :
    Calls Tryd.prog 10 args W fun e W' => ∃ v, e = .returned v ∧ Rows.stoneHonestSpec.post enc Tryd.prog Tryd.f10 false true false false W args v W' := by
  have hW' := hW
  have hlt := fun p hp => hW.lt p hp
  obtain ⟨p, q, hA0, hV, rfl, hfz, hnd⟩ := hW
  have hA : DataW.TrodAll enc Tryd.prog W 0 (fun _ => true) true Tryd.f10.params.toList args.toList ds p := hA0
  rw [Tryd.params10] at hA hval
  obtain ⟨v0, vs0, d0, ds0, p0, q0, hargs, rfl, rfl, h0, r0⟩ := trodAll_cons hA
  obtain ⟨v1, vs1, d1, ds1, p1, q1, rfl, rfl, rfl, h1, r1⟩ := trodAll_cons r0
  obtain ⟨rfl, rfl, rfl⟩ := trodAll_nil r1
  obtain rfl : args = #[v0, v1] := by cases args; simp_all
  obtain ⟨rfl, rfl⟩ := trodVars_none hV
  obtain ⟨hs, ms, ls, w1, w2, w3, hVR0⟩ := book_open (hval 0 26 v0 rfl rfl) h0
  obtain ⟨b, hb, hbv⟩ := bk_of w1 w2 w3
  rw [hbv] at hVR0
  obtain ⟨ns1, z1, hVR1⟩ := arr_open u27 t27 (hval 1 27 v1 rfl rfl) h1
  obtain ⟨z1, _⟩ := z1
  obtain ⟨n10, n11, n12, rfl⟩ : ∃ n10 n11 n12, ns1 = [n10, n11, n12] := by
    match ns1, z1 with
    | [n10, n11, n12], _ => exact ⟨_, _, _, rfl⟩
  obtain ⟨h', hx⟩ := law10 b hb n10 n11 n12
  refine (law_ok (start_ok hL.1 hL.2.1 hL.2.2.1 hL.2.2.2) (by omega) hx (.cons hVR0 (.cons hVR1 .nil))).mono fun e W' ⟨he, hg, hsame⟩ => ?_
  subst he
  simp only [List.append_nil, List.nil_append] at hW' hlt
  have hq : ∀ (i : MemPlace), i ∈ (p0 ++ (p1 ++ [])) → i.block < W.heap.size := fun i hi => hlt i (by simpa using hi)
  have harg : ∀ sp : Nat → Bool, (∀ p ∈ (p0 ++ (p1 ++ [])), sp p.block = true) → DataW.TrodAll enc Tryd.prog W' 0 sp true [26, 27] [v0, v1] [d0, d1] (p0 ++ (p1 ++ [])) := fun sp hsp =>
    (trodAll_cons_mk (trod_stay1 rec26 row26 h0 hsame (fun p hp => hq p (by simp [hp])) fun p hp => hsp p (by simp [hp])) (trodAll_cons_mk (trod_stay1 rec27 row27 h1 hsame (fun p hp => hq p (by simp [hp])) fun p hp => hsp p (by simp [hp])) trodAll_mk0))
  exact ⟨_, rfl, post_of_same (pa := (p0 ++ (p1 ++ []))) (pv := []) hW' (fun _ _ _ => trodAll_cons_mk (shut_bool Tryd.underlying4 _) trodAll_mk0) (fun sp hsp => harg sp (by simpa using hsp)) (fun _ _ => rfl) (by simp)
    (hg.frame _) hg.2.1 (ok_one (by kernel_rfl) rfl (okWide_bool_mk Tryd.underlying4 _))⟩

theorem met (os : Os) : laidMetH Tryd.prog Rows.stoneHonestRow.laid ((laidWorld os).forCall (fun _ _ => 0) ⟨#[], #[bookZ, .agg #[.int .i64 0, .int .i64 0, .int .i64 0]], []⟩).memory :=
  laidMetH_of_parts3 (fuel := 8) (laidMet_of_run' 8 (by kernel_rfl) (by kernel_rfl)) (by kernel_rfl) (by kernel_rfl)
theorem reads (os : Os) {H : Type} (enc : TypeId × Value → H) : ∃ places, DataW.whole enc Tryd.prog ((laidWorld os).forCall (fun _ _ => 0) ⟨#[], #[bookZ, .agg #[.int .i64 0, .int .i64 0, .int .i64 0]], []⟩).memory Tryd.f10.params.toList Rows.stoneHonestSpec.vars false (#[bookZ, .agg #[.int .i64 0, .int .i64 0, .int .i64 0]] : Array Value).toList 8 = some ([bookD, .agg [.lit (.int .i64 0), .lit (.int .i64 0), .lit (.int .i64 0)]], [], places) :=
  ⟨[], by kernel_rfl⟩
set_option maxRecDepth 100000 in
theorem lifted (os : Os) (started : os.Started) (H : Type) (enc : TypeId × Value → H) (F : Stop.Interp) :
    ReturnsInHanded {} Tryd.checked os 10 .any ((OpenSpec.ofChange Rows.stoneHonestSpec).preRow enc Tryd.prog Tryd.f10 Rows.stoneHonestRow.domain false Rows.stoneHonestRow.laid) (((OpenSpec.ofChange Rows.stoneHonestSpec).at F).post enc Tryd.prog Tryd.f10 false true false false) := by
  obtain ⟨places, hx⟩ := reads os enc
  refine returnsInHanded_of_row (C := Tryd.checked) (s := OpenSpec.ofChange Rows.stoneHonestSpec) ownK started (by kernel_rfl) Tryd.func10
    (witness_row_at (enc := enc) (C := Tryd.checked) false (laidWorld os) #[bookZ, .agg #[.int .i64 0, .int .i64 0, .int .i64 0]] rfl (by kernel_rfl) (by kernel_rfl) (by kernel_rfl)
      (OpenSpec.preRow_of_cond 8 hx (by kernel_rfl) (fun k hk => by cases hk) (by kernel_rfl) (met os))) ?_
  intro W base args ds gs before hval hW _ _ _ hL _ _
  exact contract H enc W base args ds gs before hval hW (globs_of hL)
theorem said : Rows.StoneHonestSaid :=
  OpenClaim.holds_of_cond 10 Tryd.f10 rfl rfl rfl rfl rfl rfl rfl ⟨rfl, rfl, rfl, rfl, rfl⟩ rfl rfl rfl rfl rfl (by kernel_rfl) Tryd.func10 (by kernel_rfl)
    (of_decide_eq_true (by kernel_rfl)) (by unfold Func.isWrapper; first | (rw [if_pos (by decide +kernel)]; kernel_rfl) | (rw [if_neg (by decide +kernel)]; exact ⟨rfl, rfl⟩))
    (fun os started H enc _ F => by rw [OpenClaim.pre_eq_preRow]; exact lifted os started H enc F)
theorem plain (f : FuncId) (fn : Func) (hf : Tryd.pinned.checked.prog.funcNamed "macadam/macadamlaw03.StoneHonest" = some f) (hfn : Tryd.pinned.checked.prog.funcs[f]? = some fn) :
    false = Tryd.pinned.checked.prog.looks [] ∧ ∀ (j : Nat) t, fn.params[j]? = some t → Tryd.pinned.checked.prog.wantsStandIn t = false := by
  obtain rfl : f = 10 := Option.some.inj ((show Tryd.prog.funcNamed "macadam/macadamlaw03.StoneHonest" = some 10 by kernel_rfl).symm.trans hf) |>.symm
  obtain rfl : fn = Tryd.f10 := (Option.some.inj (Tryd.func10.symm.trans hfn)).symm
  refine ⟨by kernel_rfl, fun j t ht => ?_⟩
  rw [Tryd.params10] at ht
  have hm : t ∈ [26, 27] := by simpa using Array.mem_of_getElem? ht
  simp only [List.mem_cons, List.not_mem_nil, or_false] at hm
  rcases hm with rfl | rfl
  · exact want26
  · exact want27
theorem card : Rows.StoneHonestCardSaid :=
  Claim7.holds_tied_plain_at .later [] _ _ _ _ said (fun _ h => by cases h) (by kernel_rfl) (fun _ h => by cases h) stoneHonest_row_tie rfl ⟨rfl, rfl⟩ (by kernel_rfl) rfl plain (by kernel_rfl)
end Go.Proofs.YtpjhmbfpfbpciaaDoor.stoneHonestProof
namespace Go.Proofs.YtpjhmbfpfbpciaaDoor
theorem stoneHonest_card : Rows.StoneHonestCardSaid := stoneHonestProof.card
end Go.Proofs.YtpjhmbfpfbpciaaDoor
end

