/- StoneLiar returns true for every input, and its input reads as it did: no condition. -/
import Derived.Test.YtpjhmbfpfbpciaaDoorAvMH
import Derived.Test.YtpjhmbfpfbpciaaDoorAvMJ
import Derived.KernelRfl
set_option linter.all false
set_option linter.unusedSectionVars false
set_option linter.unusedVariables false
set_option linter.unusedSimpArgs false
section
/- Who surely told too many. -/
set_option linter.unusedSimpArgs false
set_option linter.unusedVariables false
namespace Av
open Go (IntKind BinOp UnOp)

theorem lied_bit {b : Bk} (hok : b.ok = true) (l : List Int) (c : Nat) (k : Nat) : (liedTo b.ms l k).testBit c = true ↔ ∃ j m, j < k ∧ b.ms[j]? = some m ∧ m.c = (c : Int) ∧ l.getD j 0 < m.n := by
  induction k with
  | zero => simp [liedTo]
  | succ k ih =>
    simp only [liedTo, Nat.testBit_or, Bool.or_eq_true, ih]
    constructor
    · rintro (⟨j, m, h1, h2⟩ | h)
      · exact ⟨j, m, by omega, h2⟩
      · cases hm : b.ms[k]? with
        | none => rw [hm] at h; simp at h
        | some m =>
          rw [hm] at h
          have hmo := ok_mv hok hm
          by_cases hq : l.getD k 0 < m.n
          · simp only [hq, if_true, Nat.testBit_two_pow, decide_eq_true_eq] at h
            exact ⟨k, m, by omega, hm, by omega, hq⟩
          · simp only [hq, if_false, Nat.zero_testBit] at h
            cases h
    · rintro ⟨j, m, h1, h2, h3, h4⟩
      by_cases hj : j = k
      · subst hj
        right
        rw [h2]
        simp only [h4, if_true, Nat.testBit_two_pow, decide_eq_true_eq]
        omega
      · exact .inl ⟨j, m, by omega, h2, h3, h4⟩
theorem run_bit (b : Bk) (c : Nat) (ls : List (List Int)) : ∀ s, ((run (liarSt b) s ls).1.testBit c = true ↔ s.testBit c = true ∧ ∀ l ∈ ls, (liedTo b.ms l b.ms.length).testBit c = true) := by
  induction ls with
  | nil => intro s; simp [run]
  | cons x ls ih =>
    intro s
    have : run (liarSt b) s (x :: ls) = run (liarSt b) (s &&& liedTo b.ms x b.ms.length) ls := by simp [run, liarSt]
    rw [this, ih, Nat.testBit_and, Bool.and_eq_true]
    simp only [List.mem_cons, forall_eq_or_imp, and_assoc]
theorem outs_mem (s k : Nat) (x : Int) : x ∈ outs s k ↔ ∃ c : Nat, c < k ∧ x = c ∧ s.testBit c = true := by
  simp only [outs, List.mem_map, List.mem_filter, List.mem_range, beq_iff_eq, Nat.testBit_eq_decide_div_mod_eq, decide_eq_true_eq]
  constructor
  · rintro ⟨c, ⟨h1, h2⟩, rfl⟩; exact ⟨c, h1, rfl, h2⟩
  · rintro ⟨c, h1, rfl, h2⟩; exact ⟨c, ⟨h1, h2⟩, rfl⟩
theorem outs_rising (s : Nat) : rising 4 (-1) (outs s 4) = true := by
  simp only [outs, show List.range 4 = [0, 1, 2, 3] from rfl, List.filter_cons, List.filter_nil]
  split <;> split <;> split <;> split <;> simp [rising]
def Bk.liarL (b : Bk) : List Int := outs (run (liarSt b) 15 b.T).1 4
theorem liars_eq {b : Bk} (hok : b.ok = true) : b.liars = if b.c then (b.liarL, 0) else ([], 32) := liars_ok hok
/-- a carter surely told too many if every truth says so -/
theorem liar_mem {b : Bk} (hok : b.ok = true) (c : Nat) (hc : c < 4) : (c : Int) ∈ b.liarL ↔ ∀ l, Trn b l → ∃ j m, b.ms[j]? = some m ∧ m.c = (c : Int) ∧ l.getD j 0 < m.n := by
  have h15 : Nat.testBit 15 c = true := by
    rcases (show c = 0 ∨ c = 1 ∨ c = 2 ∨ c = 3 by omega) with rfl | rfl | rfl | rfl <;> rfl
  rw [Bk.liarL, outs_mem]
  constructor
  · rintro ⟨c', h1, h2, h3⟩ l hl
    have : c' = c := by omega
    subst this
    have := ((run_bit b c' b.T 15).1 h3).2 l ((mem_all hok).2 hl)
    obtain ⟨j, m, _, h4⟩ := (lied_bit hok l c' _).1 this
    exact ⟨j, m, h4⟩
  · intro h
    refine ⟨c, hc, rfl, (run_bit b c b.T 15).2 ⟨h15, fun l hl => ?_⟩⟩
    obtain ⟨j, m, h4⟩ := h l ((mem_all hok).1 hl)
    exact (lied_bit hok l c _).2 ⟨j, m, (List.getElem?_eq_some_iff.1 h4.1).1, h4⟩
theorem liar_lt {b : Bk} {x : Int} (h : x ∈ b.liarL) : ∃ c : Nat, c < 4 ∧ x = c := by
  obtain ⟨c, h1, h2, _⟩ := (outs_mem _ _ _).1 h
  exact ⟨c, h1, h2⟩
theorem liar_len (b : Bk) : b.liarL.length ≤ 4 := outs_len _ _
end Av
end

section
/- A book in which another number of a carter's lies stands. -/
set_option linter.unusedSimpArgs false
set_option linter.unusedVariables false
namespace Av
open Go (IntKind BinOp UnOp)
def Bk.lset (b : Bk) (c : Nat) (v : Int) : Bk := match c with
  | 0 => ⟨b.hs, b.ms, v, b.l1, b.l2, b.l3⟩
  | 1 => ⟨b.hs, b.ms, b.l0, v, b.l2, b.l3⟩
  | 2 => ⟨b.hs, b.ms, b.l0, b.l1, v, b.l3⟩
  | _ => ⟨b.hs, b.ms, b.l0, b.l1, b.l2, v⟩
theorem lset_hs (b : Bk) (c v) : (b.lset c v).hs = b.hs := by unfold Bk.lset; split <;> rfl
theorem lset_ms (b : Bk) (c v) : (b.lset c v).ms = b.ms := by unfold Bk.lset; split <;> rfl
theorem lset_lie (b : Bk) (c : Nat) (v : Int) (x : Int) (hc : c < 4) (hx : 0 ≤ x ∧ x ≤ 3) : (b.lset c v).lie x = if x = c then v else b.lie x := by
  rcases (show c = 0 ∨ c = 1 ∨ c = 2 ∨ c = 3 by omega) with rfl | rfl | rfl | rfl <;> rcases (show x = 0 ∨ x = 1 ∨ x = 2 ∨ x = 3 by omega) with rfl | rfl | rfl | rfl <;> simp [Bk.lset, Bk.lie]
theorem lset_ok {b : Bk} (h : b.ok = true) (c : Nat) {v : Int} (hv : 0 ≤ v ∧ v ≤ 2) : (b.lset c v).ok = true := by
  have hl := ok_lies h
  simp only [Bk.ok, Bool.and_eq_true] at h
  simp only [Bk.ok, Bool.and_eq_true, lset_hs, lset_ms]
  refine ⟨h.1, ?_⟩
  unfold Bk.lset
  split <;> simp [lieOk] <;> omega
/-- books of the same heaps and loads: loads can have had what they had, where carters' lies allow it -/
theorem fits_same {b x : Bk} (h1 : x.hs = b.hs) (h2 : x.ms = b.ms) (l : List Int) : x.fits l = b.fits l := by
  cases x; cases b; simp only at h1 h2; subst h1 h2; rfl
theorem tr_same {b x : Bk} (h1 : x.hs = b.hs) (h2 : x.ms = b.ms) {l : List Int} {L : List Int} (h : Tr b (inL L) l)
    (hr : ∀ (k : Nat) (m : Mv), b.ms[k]? = some m → (0 ≤ m.n - l.getD k 0 ∧ m.n - l.getD k 0 ≤ b.lie m.c) → m.n - l.getD k 0 ≤ x.lie m.c) : Tr x (inL L) l := by
  refine ⟨h.lok, fun j hj => h.nil j (by rw [← h2]; exact hj), fun j hj => ?_, by rw [fits_same h1 h2]; exact h.fits⟩
  rw [h2] at hj
  have hm : b.ms[j]? = some b.ms[j] := List.getElem?_eq_getElem hj
  have := (right_iff hm).1 (h.right j hj)
  refine (right_iff (m := b.ms[j]) (by rw [h2]; exact hm)).2 ?_
  rcases this with h3 | h3
  · exact .inl h3
  · exact .inr ⟨h3.1, hr j _ hm h3⟩
end Av
end

section
/- The law of who surely told too many. -/
set_option linter.unusedSimpArgs false
set_option linter.unusedVariables false
namespace Av
open Go (IntKind BinOp UnOp)
theorem liar_iff {b : Bk} (hok : b.ok = true) (c : Nat) (hc : c < 4) : (c : Int) ∈ b.liarL ↔ (b.lset c 0).c = false := by
  have hxo := lset_ok hok c (v := 0) (by omega)
  rw [liar_mem hok c hc, ← Bool.not_eq_true, show (b.lset c 0).c = (b.lset c 0).can (inL []) from rfl, can_iff hxo]
  constructor
  · rintro h ⟨l, hl⟩
    have hb : Trn b l := tr_same (lset_hs b c 0).symm (lset_ms b c 0).symm hl fun k m hm h1 => by
      rw [lset_ms] at hm
      have hmo := ok_mv hok hm
      rw [lset_lie b c 0 m.c hc ⟨hmo.2.2.2.1, hmo.2.2.2.2.1⟩] at h1
      split at h1
      · have := (ok_lies hok)
        have hlie : 0 ≤ b.lie m.c := by unfold Bk.lie; split; omega; split; omega; split <;> omega
        omega
      · exact h1.2
    obtain ⟨j, m, h1, h2, h3⟩ := h l hb
    have h4 := tr_right hl (k := j) (m := m) (by rw [lset_ms]; exact h1)
    have hmo := ok_mv hok h1
    rw [lset_lie b c 0 m.c hc ⟨hmo.2.2.2.1, hmo.2.2.2.2.1⟩, if_pos h2] at h4
    omega
  · intro h l hl
    refine Classical.byContradiction fun hno => h ⟨l, tr_same (lset_hs b c 0) (lset_ms b c 0) hl fun k m hm h1 => ?_⟩
    have hmo := ok_mv hok hm
    rw [lset_lie b c 0 m.c hc ⟨hmo.2.2.2.1, hmo.2.2.2.2.1⟩]
    split
    · rename_i hq
      by_cases hlt : l.getD k 0 < m.n
      · exact absurd ⟨k, m, hm, hq, hlt⟩ hno
      · omega
    · exact h1.2
theorem law11 (b : Bk) (hb : b.fit) (n : Int) : ∃ h', dcall pr (.fn 11 [] []) [b.v, .int .i64 n] H.emp = some (.bool true, h') := by
  refine law_of fn11 rfl ?_
  have c1 := c35 b hb
  cases hok : b.ok with
  | false =>
    rw [hok] at c1
    simp [g11_macadamlaw03_StoneLiar, g11_macadamlaw03_StoneLiar_c, c1, c23, results, rdRess, rdRes]
  | true =>
  rw [hok] at c1
  have hlen := ok_len hok
  have c2 := c38 n 4 (by omega)
  have w1 := wrapI_bd n (m := 4) (by omega)
  obtain ⟨c, hc⟩ := toInt w1.1
  rw [hc] at c2 w1
  have hc4 : c < 4 := by omega
  have hxo := lset_ok hok c (v := 0) (by omega)
  have hxf := ok_fit hxo
  have c3 := c28 b hb
  rw [liars_eq hok] at c3
  have hli := liar_iff hok c hc4
  have c5 := c40 b.liarL (by have := liar_len b; omega) 4
  rw [show rising 4 (-1) b.liarL = true from outs_rising _] at c5
  obtain ⟨w, c6, q, rfl, hq⟩ := c47 b.liarL (by have := liar_len b; omega) c
  have himp : b.c = false → (b.lset c 0).c = false := by
    intro h
    rw [← Bool.not_eq_true] at h ⊢
    intro h2
    obtain ⟨l, hl⟩ := (can_iff hxo).1 h2
    refine h ((can_iff hok).2 ⟨l, tr_same (lset_hs b c 0).symm (lset_ms b c 0).symm hl fun k m hm h1 => ?_⟩)
    rw [lset_ms] at hm
    have hmo := ok_mv hok hm
    rw [lset_lie b c 0 m.c hc4 ⟨hmo.2.2.2.1, hmo.2.2.2.2.1⟩] at h1
    have := (ok_lies hok)
    have hlie : 0 ≤ b.lie m.c := by unfold Bk.lie; split; omega; split; omega; split <;> omega
    split at h1 <;> omega
  have c4 := c15 (b.lset c 0) hxf
  have hcc : (b.lset c 0).can (inL []) = (b.lset c 0).c := rfl
  rw [hxo, hcc] at c4
  generalize hX : (b.lset c 0).c = X at *
  have c7 : X = false ↔ 0 ≤ q := hli.symm.trans hq.symm
  cases hbc : b.c with
  | false =>
    have hX' := himp hbc
    subst hX'
    rw [hbc] at c3
    simp at c3
    rcases (show c = 0 ∨ c = 1 ∨ c = 2 ∨ c = 3 by omega) with rfl | rfl | rfl | rfl <;> simp [Bk.lset] at c4 c2 <;>
      simp [g11_macadamlaw03_StoneLiar, g11_macadamlaw03_StoneLiar_c, c1, c23, c2, c3, c4, results, rdRess, rdRes]
  | true =>
    rw [hbc] at c3
    simp only [if_true] at c3
    cases X with
    | false =>
      have hq0 : 0 ≤ q := c7.1 rfl
      rcases (show c = 0 ∨ c = 1 ∨ c = 2 ∨ c = 3 by omega) with rfl | rfl | rfl | rfl <;> simp [Bk.lset] at c4 c2 c6 <;>
        simp [g11_macadamlaw03_StoneLiar, g11_macadamlaw03_StoneLiar_c, c1, c23, c2, c3, c4, c5, c6, hq0, eqk, results, rdRess, rdRes]
    | true =>
      have hq0 : ¬ 0 ≤ q := fun h => by have := c7.2 h; cases this
      have hq1 : q < 0 := by omega
      rcases (show c = 0 ∨ c = 1 ∨ c = 2 ∨ c = 3 by omega) with rfl | rfl | rfl | rfl <;> simp [Bk.lset] at c4 c2 c6 <;>
        simp [g11_macadamlaw03_StoneLiar, g11_macadamlaw03_StoneLiar_c, c1, c23, c2, c3, c4, c5, c6, hq0, hq1, eqk, results, rdRess, rdRes]
end Av
end

section
/- StoneLiar returns true for every input, and its input reads as it did: no condition. -/
namespace Go.Proofs.YtpjhmbfpfbpciaaDoor.stoneLiarProof
open Go Go.Proofs Go.Proofs.YtpjhmbfpfbpciaaDoor Go.ChangeShapes Go.WideShapes Go.ChangeAt Go.RowKit Av
set_option linter.constructorNameAsVariable false
set_option linter.unusedVariables false
set_option maxRecDepth 20000

theorem contract (H : Type) (enc : TypeId × Value → H) (W : World) (base : Nat) (args : Array Value) (ds gs : List (DataW H)) (before : List MemPlace)
    (hval : ∀ (j : Nat) t v, Tryd.f11.params[j]? = some t → args[j]? = some v → Value.okWide Tryd.prog W .any base t v)
    (hW : DataW.Whole enc Tryd.prog Tryd.f11.params.toList Rows.stoneLiarSpec.vars false W args.toList ds gs before) (hL : Globs W) :
    Calls Tryd.prog 11 args W fun e W' => ∃ v, e = .returned v ∧ Rows.stoneLiarSpec.post enc Tryd.prog Tryd.f11 false true false false W args v W' := by
  have hW' := hW
  have hlt := fun p hp => hW.lt p hp
  obtain ⟨p, q, hA0, hV, rfl, hfz, hnd⟩ := hW
  have hA : DataW.TrodAll enc Tryd.prog W 0 (fun _ => true) true Tryd.f11.params.toList args.toList ds p := hA0
  rw [Tryd.params11] at hA hval
  obtain ⟨v0, vs0, d0, ds0, p0, q0, hargs, rfl, rfl, h0, r0⟩ := trodAll_cons hA
  obtain ⟨v1, vs1, d1, ds1, p1, q1, rfl, rfl, rfl, h1, r1⟩ := trodAll_cons r0
  obtain ⟨rfl, rfl, rfl⟩ := trodAll_nil r1
  obtain rfl : args = #[v0, v1] := by cases args; simp_all
  obtain ⟨rfl, rfl⟩ := trodVars_none hV
  obtain ⟨hs, ms, ls, w1, w2, w3, hVR0⟩ := book_open (hval 0 26 v0 rfl rfl) h0
  obtain ⟨b, hb, hbv⟩ := bk_of w1 w2 w3
  rw [hbv] at hVR0
  obtain ⟨n1, rfl, rfl, rfl, wf1⟩ := open_int u3 (hval 1 3 v1 rfl rfl) h1
  obtain ⟨h', hx⟩ := law11 b hb n1
  refine (law_ok (start_ok hL.1 hL.2.1 hL.2.2.1 hL.2.2.2) (by omega) hx (.cons hVR0 (.cons (.int _ _) .nil))).mono fun e W' ⟨he, hg, hsame⟩ => ?_
  subst he
  simp only [List.append_nil, List.nil_append] at hW' hlt
  have hq : ∀ (i : MemPlace), i ∈ (p0 ++ ([] ++ [])) → i.block < W.heap.size := fun i hi => hlt i (by simpa using hi)
  have harg : ∀ sp : Nat → Bool, (∀ p ∈ (p0 ++ ([] ++ [])), sp p.block = true) → DataW.TrodAll enc Tryd.prog W' 0 sp true [26, 3] [v0, .int .i64 n1] [d0, .lit (.int .i64 n1)] (p0 ++ ([] ++ [])) := fun sp hsp =>
    (trodAll_cons_mk (trod_stay1 rec26 row26 h0 hsame (fun p hp => hq p (by simp [hp])) fun p hp => hsp p (by simp [hp])) (trodAll_cons_mk (shut_int u3 wf1) trodAll_mk0))
  exact ⟨_, rfl, post_of_same (pa := (p0 ++ ([] ++ []))) (pv := []) hW' (fun _ _ _ => trodAll_cons_mk (shut_bool Tryd.underlying4 _) trodAll_mk0) (fun sp hsp => harg sp (by simpa using hsp)) (fun _ _ => rfl) (by simp)
    (hg.frame _) hg.2.1 (ok_one (by kernel_rfl) rfl (okWide_bool_mk Tryd.underlying4 _))⟩

theorem met (os : Os) : laidMetH Tryd.prog Rows.stoneLiarRow.laid ((laidWorld os).forCall (fun _ _ => 0) ⟨#[], #[bookZ, .int .i64 0], []⟩).memory :=
  laidMetH_of_parts3 (fuel := 8) (laidMet_of_run' 8 (by kernel_rfl) (by kernel_rfl)) (by kernel_rfl) (by kernel_rfl)
theorem reads (os : Os) {H : Type} (enc : TypeId × Value → H) : ∃ places, DataW.whole enc Tryd.prog ((laidWorld os).forCall (fun _ _ => 0) ⟨#[], #[bookZ, .int .i64 0], []⟩).memory Tryd.f11.params.toList Rows.stoneLiarSpec.vars false (#[bookZ, .int .i64 0] : Array Value).toList 8 = some ([bookD, .lit (.int .i64 0)], [], places) :=
  ⟨[], by kernel_rfl⟩
set_option maxRecDepth 100000 in
theorem lifted (os : Os) (started : os.Started) (H : Type) (enc : TypeId × Value → H) (F : Stop.Interp) :
    ReturnsInHanded {} Tryd.checked os 11 .any ((OpenSpec.ofChange Rows.stoneLiarSpec).preRow enc Tryd.prog Tryd.f11 Rows.stoneLiarRow.domain false Rows.stoneLiarRow.laid) (((OpenSpec.ofChange Rows.stoneLiarSpec).at F).post enc Tryd.prog Tryd.f11 false true false false) := by
  obtain ⟨places, hx⟩ := reads os enc
  refine returnsInHanded_of_row (C := Tryd.checked) (s := OpenSpec.ofChange Rows.stoneLiarSpec) ownK started (by kernel_rfl) Tryd.func11
    (witness_row_at (enc := enc) (C := Tryd.checked) false (laidWorld os) #[bookZ, .int .i64 0] rfl (by kernel_rfl) (by kernel_rfl) (by kernel_rfl)
      (OpenSpec.preRow_of_cond 8 hx (by kernel_rfl) (fun k hk => by cases hk) (by kernel_rfl) (met os))) ?_
  intro W base args ds gs before hval hW _ _ _ hL _ _
  exact contract H enc W base args ds gs before hval hW (globs_of hL)
theorem said : Rows.StoneLiarSaid :=
  OpenClaim.holds_of_cond 11 Tryd.f11 rfl rfl rfl rfl rfl rfl rfl ⟨rfl, rfl, rfl, rfl, rfl⟩ rfl rfl rfl rfl rfl (by kernel_rfl) Tryd.func11 (by kernel_rfl)
    (of_decide_eq_true (by kernel_rfl)) (by unfold Func.isWrapper; first | (rw [if_pos (by decide +kernel)]; kernel_rfl) | (rw [if_neg (by decide +kernel)]; exact ⟨rfl, rfl⟩))
    (fun os started H enc _ F => by rw [OpenClaim.pre_eq_preRow]; exact lifted os started H enc F)
theorem plain (f : FuncId) (fn : Func) (hf : Tryd.pinned.checked.prog.funcNamed "macadam/macadamlaw03.StoneLiar" = some f) (hfn : Tryd.pinned.checked.prog.funcs[f]? = some fn) :
    false = Tryd.pinned.checked.prog.looks [] ∧ ∀ (j : Nat) t, fn.params[j]? = some t → Tryd.pinned.checked.prog.wantsStandIn t = false := by
  obtain rfl : f = 11 := Option.some.inj ((show Tryd.prog.funcNamed "macadam/macadamlaw03.StoneLiar" = some 11 by kernel_rfl).symm.trans hf) |>.symm
  obtain rfl : fn = Tryd.f11 := (Option.some.inj (Tryd.func11.symm.trans hfn)).symm
  refine ⟨by kernel_rfl, fun j t ht => ?_⟩
  rw [Tryd.params11] at ht
  have hm : t ∈ [26, 3] := by simpa using Array.mem_of_getElem? ht
  simp only [List.mem_cons, List.not_mem_nil, or_false] at hm
  rcases hm with rfl | rfl
  · exact want26
  · exact want3
theorem card : Rows.StoneLiarCardSaid :=
  Claim7.holds_tied_plain_at .later [] _ _ _ _ said (fun _ h => by cases h) (by kernel_rfl) (fun _ h => by cases h) stoneLiar_row_tie rfl ⟨rfl, rfl⟩ (by kernel_rfl) rfl plain (by kernel_rfl)
end Go.Proofs.YtpjhmbfpfbpciaaDoor.stoneLiarProof
namespace Go.Proofs.YtpjhmbfpfbpciaaDoor
theorem stoneLiar_card : Rows.StoneLiarCardSaid := stoneLiarProof.card
end Go.Proofs.YtpjhmbfpfbpciaaDoor
end

