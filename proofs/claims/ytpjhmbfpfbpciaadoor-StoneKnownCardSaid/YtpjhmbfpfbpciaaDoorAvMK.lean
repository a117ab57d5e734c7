/- Contracts of the reference: the conditions stand in each statement. -/
import Derived.Test.YtpjhmbfpfbpciaaDoorAvMJ
set_option linter.all false
set_option linter.unusedSectionVars false
set_option linter.unusedVariables false
set_option linter.unusedSimpArgs false
set_option linter.unnecessarySimpa false
section
/- Who surely told too many. -/
set_option linter.unusedSimpArgs false
set_option linter.unusedVariables false
namespace Av
open Go (IntKind BinOp UnOp)

theorem lied_bit {b : Bk} (hok : b.ok = true) (l : List Int) (c : Nat) (k : Nat) : (liedTo b.ms l k).testBit c = true ↔ ∃ j m, j < k ∧ b.ms[j]? = some m ∧ m.c = (c : Int) ∧ l.getD j 0 < m.n := by
  induction k with
  | zero => simp [liedTo]
  | succ k ih =>
    simp only [liedTo, Nat.testBit_or, Bool.or_eq_true, ih]
    constructor
    · rintro (⟨j, m, h1, h2⟩ | h)
      · exact ⟨j, m, by omega, h2⟩
      · cases hm : b.ms[k]? with
        | none => rw [hm] at h; simp at h
        | some m =>
          rw [hm] at h
          have hmo := ok_mv hok hm
          by_cases hq : l.getD k 0 < m.n
          · simp only [hq, if_true, Nat.testBit_two_pow, decide_eq_true_eq] at h
            exact ⟨k, m, by omega, hm, by omega, hq⟩
          · simp only [hq, if_false, Nat.zero_testBit] at h
            cases h
    · rintro ⟨j, m, h1, h2, h3, h4⟩
      by_cases hj : j = k
      · subst hj
        right
        rw [h2]
        simp only [h4, if_true, Nat.testBit_two_pow, decide_eq_true_eq]
        omega
      · exact .inl ⟨j, m, by omega, h2, h3, h4⟩
theorem run_bit (b : Bk) (c : Nat) (ls : List (List Int)) : ∀ s, ((run (liarSt b) s ls).1.testBit c = true ↔ s.testBit c = true ∧ ∀ l ∈ ls, (liedTo b.ms l b.ms.length).testBit c = true) := by
  induction ls with
  | nil => intro s; simp [run]
  | cons x ls ih =>
    intro s
    have : run (liarSt b) s (x :: ls) = run (liarSt b) (s &&& liedTo b.ms x b.ms.length) ls := by simp [run, liarSt]
    rw [this, ih, Nat.testBit_and, Bool.and_eq_true]
    simp only [List.mem_cons, forall_eq_or_imp, and_assoc]
theorem outs_mem (s k : Nat) (x : Int) : x ∈ outs s k ↔ ∃ c : Nat, c < k ∧ x = c ∧ s.testBit c = true := by
  simp only [outs, List.mem_map, List.mem_filter, List.mem_range, beq_iff_eq, Nat.testBit_eq_decide_div_mod_eq, decide_eq_true_eq]
  constructor
  · rintro ⟨c, ⟨h1, h2⟩, rfl⟩; exact ⟨c, h1, rfl, h2⟩
  · rintro ⟨c, h1, rfl, h2⟩; exact ⟨c, ⟨h1, h2⟩, rfl⟩
theorem outs_rising (s : Nat) : rising 4 (-1) (outs s 4) = true := by
  simp only [outs, show List.range 4 = [0, 1, 2, 3] from rfl, List.filter_cons, List.filter_nil]
  split <;> split <;> split <;> split <;> simp [rising]
def Bk.liarL (b : Bk) : List Int := outs (run (liarSt b) 15 b.T).1 4
theorem liars_eq {b : Bk} (hok : b.ok = true) : b.liars = if b.c then (b.liarL, 0) else ([], 32) := liars_ok hok
/-- a carter surely told too many if every truth says so -/
theorem liar_mem {b : Bk} (hok : b.ok = true) (c : Nat) (hc : c < 4) : (c : Int) ∈ b.liarL ↔ ∀ l, Trn b l → ∃ j m, b.ms[j]? = some m ∧ m.c = (c : Int) ∧ l.getD j 0 < m.n := by
  have h15 : Nat.testBit 15 c = true := by
    rcases (show c = 0 ∨ c = 1 ∨ c = 2 ∨ c = 3 by omega) with rfl | rfl | rfl | rfl <;> rfl
  rw [Bk.liarL, outs_mem]
  constructor
  · rintro ⟨c', h1, h2, h3⟩ l hl
    have : c' = c := by omega
    subst this
    have := ((run_bit b c' b.T 15).1 h3).2 l ((mem_all hok).2 hl)
    obtain ⟨j, m, _, h4⟩ := (lied_bit hok l c' _).1 this
    exact ⟨j, m, h4⟩
  · intro h
    refine ⟨c, hc, rfl, (run_bit b c b.T 15).2 ⟨h15, fun l hl => ?_⟩⟩
    obtain ⟨j, m, h4⟩ := h l ((mem_all hok).1 hl)
    exact (lied_bit hok l c _).2 ⟨j, m, (List.getElem?_eq_some_iff.1 h4.1).1, h4⟩
theorem liar_lt {b : Bk} {x : Int} (h : x ∈ b.liarL) : ∃ c : Nat, c < 4 ∧ x = c := by
  obtain ⟨c, h1, h2, _⟩ := (outs_mem _ _ _).1 h
  exact ⟨c, h1, h2⟩
theorem liar_len (b : Bk) : b.liarL.length ≤ 4 := outs_len _ _
end Av
end

section
/- A book in which another number of a carter's lies stands. -/
set_option linter.unusedSimpArgs false
set_option linter.unusedVariables false
namespace Av
open Go (IntKind BinOp UnOp)
def Bk.lset (b : Bk) (c : Nat) (v : Int) : Bk := match c with
  | 0 => ⟨b.hs, b.ms, v, b.l1, b.l2, b.l3⟩
  | 1 => ⟨b.hs, b.ms, b.l0, v, b.l2, b.l3⟩
  | 2 => ⟨b.hs, b.ms, b.l0, b.l1, v, b.l3⟩
  | _ => ⟨b.hs, b.ms, b.l0, b.l1, b.l2, v⟩
theorem lset_hs (b : Bk) (c v) : (b.lset c v).hs = b.hs := by unfold Bk.lset; split <;> rfl
theorem lset_ms (b : Bk) (c v) : (b.lset c v).ms = b.ms := by unfold Bk.lset; split <;> rfl
theorem lset_lie (b : Bk) (c : Nat) (v : Int) (x : Int) (hc : c < 4) (hx : 0 ≤ x ∧ x ≤ 3) : (b.lset c v).lie x = if x = c then v else b.lie x := by
  rcases (show c = 0 ∨ c = 1 ∨ c = 2 ∨ c = 3 by omega) with rfl | rfl | rfl | rfl <;> rcases (show x = 0 ∨ x = 1 ∨ x = 2 ∨ x = 3 by omega) with rfl | rfl | rfl | rfl <;> simp [Bk.lset, Bk.lie]
theorem lset_ok {b : Bk} (h : b.ok = true) (c : Nat) {v : Int} (hv : 0 ≤ v ∧ v ≤ 2) : (b.lset c v).ok = true := by
  have hl := ok_lies h
  simp only [Bk.ok, Bool.and_eq_true] at h
  simp only [Bk.ok, Bool.and_eq_true, lset_hs, lset_ms]
  refine ⟨h.1, ?_⟩
  unfold Bk.lset
  split <;> simp [lieOk] <;> omega
/-- books of the same heaps and loads: loads can have had what they had, where carters' lies allow it -/
theorem fits_same {b x : Bk} (h1 : x.hs = b.hs) (h2 : x.ms = b.ms) (l : List Int) : x.fits l = b.fits l := by
  cases x; cases b; simp only at h1 h2; subst h1 h2; rfl
theorem tr_same {b x : Bk} (h1 : x.hs = b.hs) (h2 : x.ms = b.ms) {l : List Int} {L : List Int} (h : Tr b (inL L) l)
    (hr : ∀ (k : Nat) (m : Mv), b.ms[k]? = some m → (0 ≤ m.n - l.getD k 0 ∧ m.n - l.getD k 0 ≤ b.lie m.c) → m.n - l.getD k 0 ≤ x.lie m.c) : Tr x (inL L) l := by
  refine ⟨h.lok, fun j hj => h.nil j (by rw [← h2]; exact hj), fun j hj => ?_, by rw [fits_same h1 h2]; exact h.fits⟩
  rw [h2] at hj
  have hm : b.ms[j]? = some b.ms[j] := List.getElem?_eq_getElem hj
  have := (right_iff hm).1 (h.right j hj)
  refine (right_iff (m := b.ms[j]) (by rw [h2]; exact hm)).2 ?_
  rcases this with h3 | h3
  · exact .inl h3
  · exact .inr ⟨h3.1, hr j _ hm h3⟩
end Av
end

section
/- What is in a heap, in every truth and in all. -/
set_option linter.unusedSimpArgs false
set_option linter.unusedVariables false
namespace Av
open Go (IntKind BinOp UnOp)
theorem lowTo_ge (ms : List Mv) (l : List Int) (x lo : Int) (k j : Nat) (h : j < k) : - more ms l x j ≤ lowTo ms l x lo k := by
  induction k with
  | zero => omega
  | succ k ih =>
    simp only [lowTo]
    by_cases hj : j = k
    · subst hj; omega
    · have := ih (by omega); omega
/-- what a heap has in every truth -/
theorem heap_tr {b : Bk} (hok : b.ok = true) {l : List Int} (hl : Trn b l) {h : Nat} {x : Hp} (hx : b.hs[h]? = some x) :
    x.a ≤ b.firstLo l h x ∧ x.c ≤ b.firstLo l h x + more b.ms l h b.ms.length ∧ b.firstHi l h x ≤ x.b ∧ b.firstHi l h x + more b.ms l h b.ms.length ≤ x.d ∧ b.firstLo l h x ≤ b.firstHi l h x ∧
    (∀ k, k ≤ b.ms.length → 0 ≤ b.firstLo l h x + more b.ms l h k) := by
  have h1 := lowTo_bd b.ms hl.lok h (max x.a (x.c - more b.ms l h b.ms.length)) (b.ms.length + 1)
  have h2 := fits_iff.1 hl.fits h x hx
  have h3 : ∀ k, k ≤ b.ms.length → 0 ≤ b.firstLo l h x + more b.ms l h k := fun k hk => by
    have := lowTo_ge b.ms l h (max x.a (x.c - more b.ms l h b.ms.length)) (b.ms.length + 1) k (by omega)
    unfold Bk.firstLo; omega
  refine ⟨?_, ?_, ?_, ?_, h2, h3⟩
  · unfold Bk.firstLo; omega
  · unfold Bk.firstLo; omega
  · unfold Bk.firstHi; omega
  · unfold Bk.firstHi; omega
/-- the span of what is in a heap -/
theorem heap_span {b : Bk} (hok : b.ok = true) (hc : b.c = true) {h k : Nat} {x : Hp} (hx : b.hs[h]? = some x) (hk : k ≤ b.ms.length) :
    0 ≤ (tell (heapF b h k) b.T).1 ∧ (tell (heapF b h k) b.T).1 ≤ (tell (heapF b h k) b.T).2 ∧ (tell (heapF b h k) b.T).2 ≤ 200 ∧
    (∀ l, Trn b l → (tell (heapF b h k) b.T).1 ≤ b.firstLo l h x + more b.ms l h k ∧ b.firstHi l h x + more b.ms l h k ≤ (tell (heapF b h k) b.T).2) ∧
    (∃ l, Trn b l ∧ (tell (heapF b h k) b.T).1 = b.firstLo l h x + more b.ms l h k) ∧ (∃ l, Trn b l ∧ (tell (heapF b h k) b.T).2 = b.firstHi l h x + more b.ms l h k) := by
  have hlen := ok_len hok
  obtain ⟨h1, ⟨l, hl, h2⟩, ⟨l', hl', h3⟩⟩ := tell_T hok hc (heapF b h k)
  have hxo := ok_hp hok hx
  have hF : ∀ l, heapF b h k l = (b.firstLo l h x + more b.ms l h k, b.firstHi l h x + more b.ms l h k) := fun l => by simp only [heapF, hx]
  simp only [hF] at h1 h2 h3
  have g1 := heap_tr hok hl hx
  have g2 := heap_tr hok hl' hx
  have g3 := h1 l hl
  have g5 := more_bd b.ms hl'.lok h k
  have g6 := g1.2.2.2.2.2 k hk
  have g7 := h1 l' hl'
  refine ⟨by omega, ?_, by omega, h1, ⟨l, hl, h2⟩, ⟨l', hl', h3⟩⟩
  have := g1.2.2.2.2.1
  omega
end Av
end

section
/- Contracts of the reference: Check. -/
set_option linter.unusedSimpArgs false
set_option linter.unusedVariables false
namespace Av
open Go (IntKind BinOp UnOp)
theorem c76 (b : Bk) (hb : b.fit) (n : Int) : icall pr (.fn 76 [] []) [b.v, .int .i64 n] = some (.bool (isHp b n)) := by
  refine icall_fn fn76 rfl rfl (by simp) rfl ?_
  simp [g76_macadamref03_isHeap, g76_macadamref03_isHeap_c, results, rdRess, rdRes, c63, isHp]
  rw [wrap_id (by omega) (by have := hb.1; omega)]
  rw [Bool.eq_iff_iff]; simp; omega
theorem c71 (b : Bk) (hb : b.fit) (n : Int) : icall pr (.fn 71 [] []) [b.v, .int .i64 n] = some (.bool (isMv b n)) := by
  refine icall_fn fn71 rfl rfl (by simp) rfl ?_
  simp [g71_macadamref03_isMove, g71_macadamref03_isMove_c, results, rdRess, rdRes, c63, isMv]
  rw [wrap_id (by omega) (by have := hb.2; omega)]
  rw [Bool.eq_iff_iff]; simp; omega
theorem dc64 (b : Bk) (hb : b.fit) (n : Int) : icall pr (.fn 64 [] []) [b.v, .int .i64 n] = some (.bool (isEnd b.hs.length n)) := by
  refine icall_fn fn64 rfl rfl (by simp) rfl ?_
  by_cases h1 : n = -1 <;> simp [g64_macadamref03_end, g64_macadamref03_end_c, results, rdRess, rdRes, c76 b hb, h1, isEnd, isHp]
theorem c65 (n : Int) : icall pr (.fn 65 [] []) [.int .i64 n] = some (.bool (decide (0 ≤ n ∧ n ≤ 3))) := by
  refine icall_fn fn65 rfl rfl rfl rfl ?_
  simp [g65_macadamref03_isCarter, g65_macadamref03_isCarter_c, results, rdRess, rdRes, c63]
theorem all_take_false {α : Type} {l : List α} {f : α → Bool} {k : Nat} (h : (l.take k).all f = false) : l.all f = false := by
  rw [← Bool.not_eq_true, List.all_eq_true] at h ⊢
  exact fun hh => h fun x hx => hh x (List.mem_of_mem_take hx)
theorem l18_0 (b : Bk) (hb : b.fit) (ok0 : Bool) (e h) (e3 : e 3 = .bool ok0) (e1 : e 1 = b.bx) (e4 : e 4 = .int .i64 0) :
    wpr (den pr (.loop g18_macadamref03_Check_l0) e h) fun o e' h' => o = .exit 0 ∧ h' = h ∧ e' 3 = .bool (ok0 && b.hs.all Hp.ok) ∧ e' 1 = e 1 := by
  refine loop_up pr (fun k e' h' => h' = h ∧ e' 3 = .bool (ok0 && (b.hs.take k).all Hp.ok) ∧ e' 1 = e 1 ∧ e' 4 = .int .i64 k) b.hs.length ?_ ?_ 0 e h (by omega) ⟨rfl, by simpa using e3, rfl, e4⟩
  · rintro k e' h' hk ⟨rfl, q3, q1, q4⟩
    rw [e1] at q1
    have htk := all_take b.hs Hp.ok k hk
    generalize hx : b.hs[k] = x at htk
    have hw : IntKind.wrap .i64 ((k : Int) + 1) = k + 1 := wrap_id (by omega) (by have := hb.1; omega)
    cases hok : (ok0 && (b.hs.take k).all Hp.ok) with
    | false =>
      rw [hok] at q3
      have : (ok0 && b.hs.all Hp.ok) = false := by
        rw [Bool.and_eq_false_iff] at hok ⊢
        exact hok.imp id all_take_false
      simp [g18_macadamref03_Check_l0, q3, q1, q4, this, e1]
    | true =>
      rw [hok] at q3
      rw [Bool.and_eq_true] at hok
      have d1 := c42 x.a x.b 0 60 4 (by omega) (by omega)
      have d2 := c42 x.c x.d 0 99 99 (by omega) (by omega)
      rw [htk, hok.1, hok.2]
      by_cases h1 : 0 ≤ x.a ∧ x.a ≤ x.b ∧ x.b ≤ 60 ∧ x.b - x.a ≤ 4
      · rw [decide_eq_true h1] at d1
        by_cases h2 : 0 ≤ x.c ∧ x.c ≤ x.d ∧ x.d ≤ 99 ∧ x.d - x.c ≤ 99
        · rw [decide_eq_true h2] at d2
          have : x.ok = true := by simp only [Hp.ok, decide_eq_true_eq]; omega
          simp [g18_macadamref03_Check_l0, q3, q1, q4, hk, hx, hw, d1, d2, e1, this]
        · rw [decide_eq_false h2] at d2
          have : x.ok = false := by simp only [Hp.ok, decide_eq_false_iff_not]; omega
          simp [g18_macadamref03_Check_l0, q3, q1, q4, hk, hx, hw, d1, d2, e1, this]
      · rw [decide_eq_false h1] at d1
        have : x.ok = false := by simp only [Hp.ok, decide_eq_false_iff_not]; omega
        simp [g18_macadamref03_Check_l0, q3, q1, q4, hk, hx, hw, d1, e1, this]
  · rintro e' h' ⟨rfl, q3, q1, q4⟩
    rw [e1] at q1
    rw [List.take_length] at q3
    cases hok : (ok0 && b.hs.all Hp.ok) <;> rw [hok] at q3 <;> simp [g18_macadamref03_Check_l0, q3, q1, q4, e1]
theorem l18_1 (b : Bk) (hb : b.fit) (ok0 : Bool) (e h) (e3 : e 3 = .bool ok0) (e1 : e 1 = b.bx) (e5 : e 5 = .int .i64 0) :
    wpr (den pr (.loop g18_macadamref03_Check_l1) e h) fun o e' h' => o = .exit 2 ∧ h' = h ∧ e' 3 = .bool (ok0 && b.ms.all (Mv.ok b.hs.length)) ∧ e' 1 = e 1 := by
  refine loop_up pr (fun k e' h' => h' = h ∧ e' 3 = .bool (ok0 && (b.ms.take k).all (Mv.ok b.hs.length)) ∧ e' 1 = e 1 ∧ e' 5 = .int .i64 k) b.ms.length ?_ ?_ 0 e h (by omega) ⟨rfl, by simpa using e3, rfl, e5⟩
  · rintro k e' h' hk ⟨rfl, q3, q1, q5⟩
    rw [e1] at q1
    have htk := all_take b.ms (Mv.ok b.hs.length) k hk
    generalize hx : b.ms[k] = x at htk
    have hw : IntKind.wrap .i64 ((k : Int) + 1) = k + 1 := wrap_id (by omega) (by have := hb.2; omega)
    cases hok : (ok0 && (b.ms.take k).all (Mv.ok b.hs.length)) with
    | false =>
      rw [hok] at q3
      have : (ok0 && b.ms.all (Mv.ok b.hs.length)) = false := by
        rw [Bool.and_eq_false_iff] at hok ⊢
        exact hok.imp id all_take_false
      simp [g18_macadamref03_Check_l1, q3, q1, q5, this, e1]
    | true =>
      rw [hok] at q3
      rw [Bool.and_eq_true] at hok
      rw [htk, hok.1, hok.2]
      cases h1 : isEnd b.hs.length x.f with
      | false => simp [g18_macadamref03_Check_l1, q3, q1, q5, hk, hx, hw, e1, dc64 b hb, c65, c63, h1, Mv.ok]
      | true =>
      cases h2 : isEnd b.hs.length x.t with
      | false => simp [g18_macadamref03_Check_l1, q3, q1, q5, hk, hx, hw, e1, dc64 b hb, c65, c63, h1, h2, Mv.ok]
      | true =>
      by_cases h3 : x.f = x.t
      · simp [g18_macadamref03_Check_l1, q3, q1, q5, hk, hx, hw, e1, dc64 b hb, c65, c63, h1, h2, h3, Mv.ok]
      by_cases h4 : 0 ≤ x.c ∧ x.c ≤ 3
      · simp [g18_macadamref03_Check_l1, q3, q1, q5, hk, hx, hw, e1, dc64 b hb, c65, c63, h1, h2, h3, h4, Mv.ok]
      · have h4' : (decide (0 ≤ x.c) && decide (x.c ≤ 3)) = false := by rw [← Bool.not_eq_true]; simpa using h4
        simp [g18_macadamref03_Check_l1, q3, q1, q5, hk, hx, hw, e1, dc64 b hb, c65, c63, h1, h2, h3, h4', Mv.ok]
  · rintro e' h' ⟨rfl, q3, q1, q5⟩
    rw [e1] at q1
    rw [List.take_length] at q3
    cases hok : (ok0 && b.ms.all (Mv.ok b.hs.length)) <;> rw [hok] at q3 <;> simp [g18_macadamref03_Check_l1, q3, q1, q5, e1]
theorem c18 (b : Bk) (hb : b.fit) : icall pr (.fn 18 [] []) [b.v] = some (.int .i64 (if b.ok then 0 else 30)) := by
  refine icall_fn fn18 rfl rfl (by simp) (by simp) ?_
  have d0 := c63 b.l0 0 2
  have d1 := c63 b.l1 0 2
  have d2 := c63 b.l2 0 2
  have d3 := c63 b.l3 0 2
  have e0 : decide (0 ≤ b.l0 ∧ b.l0 ≤ 2) = lieOk b.l0 := rfl
  have e1' : decide (0 ≤ b.l1 ∧ b.l1 ≤ 2) = lieOk b.l1 := rfl
  have e2 : decide (0 ≤ b.l2 ∧ b.l2 ≤ 2) = lieOk b.l2 := rfl
  have e3 : decide (0 ≤ b.l3 ∧ b.l3 ≤ 2) = lieOk b.l3 := rfl
  rw [e0] at d0
  rw [e1'] at d1
  rw [e2] at d2
  rw [e3] at d3
  have w4 : IntKind.wrap .i64 3 = 3 := rfl
  have w5 : IntKind.wrap .i64 4 = 4 := rfl
  by_cases h0 : (1 : Int) ≤ b.hs.length ∧ (b.hs.length : Int) ≤ 4
  all_goals
    simp [g18_macadamref03_Check, g18_macadamref03_Check_c, c63, h0]
    refine wpr_seq (wpr_oblock (wpr_mono (l18_0 b hb _ _ _ rfl rfl rfl) ?_))
    rintro _ e _ ⟨rfl, rfl, q3, q1⟩
    simp [onB, onN]
    refine wpr_seq (wpr_oblock (wpr_mono (l18_1 b hb _ _ _ q3 (by simp [q1]) rfl) ?_))
    clear q3
    rintro _ e2 _ ⟨rfl, rfl, q3, q2⟩
    simp [q1] at q2
    simp [onB, onN]
    generalize hX : (_ && b.ms.all (Mv.ok b.hs.length)) = X at q3
  · have : b.ok = (X && (lieOk b.l0 && lieOk b.l1 && lieOk b.l2 && lieOk b.l3)) := by
      have h0' : 1 ≤ b.hs.length ∧ b.hs.length ≤ 4 := by omega
      have h1' : ((b.ms.length : Int) ≤ 5) = (b.ms.length ≤ 5) := by apply propext; omega
      rw [← hX]; simp [Bk.ok, Bool.and_assoc, h0', h1']
    rw [this]
    cases X with
    | false => rw [r_loop]; simp [g18_macadamref03_Check_l2, onB, onN, q3, q2, results, rdRess, rdRes]
    | true =>
      cases z0 : lieOk b.l0 <;> cases z1 : lieOk b.l1 <;> cases z2 : lieOk b.l2 <;> cases z3 : lieOk b.l3 <;> rw [z0] at d0 <;> rw [z1] at d1 <;> rw [z2] at d2 <;> rw [z3] at d3
      all_goals
        rw [r_loop]
        simp [g18_macadamref03_Check_l2, q3, q2, d0, d1, d2, d3, w4, w5]
        rw [r_loop]
        try simp [g18_macadamref03_Check_l2, onB, onN, q3, q2, d0, d1, d2, d3, w4, w5, results, rdRess, rdRes]
        try (rw [r_loop]; simp [g18_macadamref03_Check_l2, onB, onN, q3, q2, d0, d1, d2, d3, w4, w5, results, rdRess, rdRes])
        try (rw [r_loop]; simp [g18_macadamref03_Check_l2, onB, onN, q3, q2, d0, d1, d2, d3, w4, w5, results, rdRess, rdRes])
        try (rw [r_loop]; simp [g18_macadamref03_Check_l2, onB, onN, q3, q2, d0, d1, d2, d3, w4, w5, results, rdRess, rdRes])
  · have : b.ok = false := by
      rw [← Bool.not_eq_true]; simp [Bk.ok]; omega
    rw [this]
    have : X = false := by rw [← hX]; simp
    subst this
    rw [r_loop]; simp [g18_macadamref03_Check_l2, onB, onN, q3, q2, results, rdRess, rdRes]
end Av
end

section
/- Contracts of the reference: what is in a heap, what it can have had at first. -/
set_option linter.unusedSimpArgs false
set_option linter.unusedVariables false
namespace Av
open Go (IntKind BinOp UnOp)
theorem c93 (a b c d : Int) : icall pr (.fn 93 [] []) [.agg [.int .i64 a, .int .i64 b], .agg [.int .i64 c, .int .i64 d]] = some (.agg [.int .i64 (min a c), .int .i64 (max b d)]) := by
  refine icall_fn fn93 rfl rfl rfl rfl ?_
  simp [g93_macadamref00_Union, g93_macadamref00_Union_c, results, rdRess, rdRes, c44]
theorem c92 (l : List Int) (hl : l.length ≤ 1000) (n : Int) : icall pr (.fn 92 [] []) [.sl (iv l) .shut, .int .i64 n] = some (.sl (iv (l ++ [n])) .shut) := by
  refine icall_fn fn92 rfl rfl (by simp) (by simp only [AV.clean, iv_clean]; rfl) ?_
  cases l with
  | nil =>
    obtain ⟨k2, h2, ha, _⟩ := app_ok (h := H.emp) (k := .exact) (bytes := 8) (new := [.int .i64 n]) (k2 := .exact) (sz := 1) (es := []) trivial (by simp) rfl (by simp) (by simp)
    simp at ha
    simp [g92_macadamref00_Put, g92_macadamref00_Put_c, results, rdRess, rdRes, app_nil, ha]
  | cons x l =>
    obtain ⟨k1, h1, ha1, ho, hn, _⟩ := app_ok (h := H.emp) (k := .exact) (bytes := 8) (new := iv (x :: l)) (k2 := .shut) (sz := 1) (es := []) trivial (by simp) rfl (iv_cell1f _) (by simp at hl ⊢; omega)
    have hsh : (iv (x :: l)).map AV.shutv = iv (x :: l) := by simp [iv]
    rw [hsh] at ha1
    obtain ⟨k2, h2, ha2, _⟩ := app_ok (h := h1) (k := k1) (bytes := 8) (new := [.int .i64 n]) (k2 := .exact) (sz := 1) (es := [] ++ iv (x :: l)) ho (by simp) (iv_cell1 _) (by simp) (by simp at hl ⊢; omega)
    simp at ha1 ha2
    simp [g92_macadamref00_Put, g92_macadamref00_Put_c, results, rdRess, rdRes, ha1, ha2]

/-- a list's least and most -/
theorem c72 (x : Int) (l : List Int) (hl : ((x :: l).length : Int) ≤ 9223372036854775807) : icall pr (.fn 72 [] []) [.sl (iv (x :: l)) .shut] = some (.agg [.int .i64 (l.foldl min x), .int .i64 (l.foldl max x)]) := by
  refine icall_fn fn72 rfl rfl (by simp) rfl ?_
  simp [g72_macadamref03_ends, g72_macadamref03_ends_c, c41]
  have hmn : ∀ (y : Int) (m : List Int), min y (m.foldl min y) = m.foldl min y := by
    intro y m
    have : ∀ (m : List Int) (z : Int), m.foldl min z ≤ z := by
      intro m
      induction m with
      | nil => intro z; exact Int.le_refl _
      | cons a m ih => intro z; exact Int.le_trans (ih _) (by omega)
    have := this m y; omega
  refine wpr_seq (wpr_oblock (loop_up pr (fun k e h => e 0 = .sl (iv (x :: l)) .shut ∧ e 2 = .lbox 0 [.int .i64 0, .int .i64 0] ∧ e 4 = .int .i64 k ∧ e 3 = .lbox 0 [.int .i64 (((x :: l).take k).foldl min x), .int .i64 (((x :: l).take k).foldl max x)]) (x :: l).length ?_ ?_ 0 _ _ (by omega) ⟨rfl, rfl, rfl, rfl⟩))
  · rintro k e h hk ⟨e0, e2, e4, e3⟩
    have hw : IntKind.wrap .i64 ((k : Int) + 1) = k + 1 := wrap_id (by omega) (by omega)
    have hg : (iv (x :: l))[k]? = some (.int .i64 (x :: l)[k]) := by rw [iv_get, List.getElem?_eq_getElem hk]; rfl
    have ht : (x :: l).take (k + 1) = (x :: l).take k ++ [(x :: l)[k]] := by rw [List.take_add_one, List.getElem?_eq_getElem hk]; rfl
    rw [ht, List.foldl_append, List.foldl_append]
    have hkk : (k : Int) < (x :: l).length := by omega
    generalize (x :: l)[k] = z at *
    generalize ((x :: l).take k).foldl min x = A at *
    generalize ((x :: l).take k).foldl max x = B at *
    generalize hq : x :: l = q at *
    generalize hqq : iv q = V at *
    have hV : V.length = q.length := by rw [← hqq]; simp
    obtain ⟨hlt, hel⟩ := List.getElem?_eq_some_iff.1 hg
    simp [g72_macadamref03_ends_l0, e0, e2, e4, e3, hkk, hV, hk, hw, hel, c41, c93]
  · rintro e h ⟨e0, e2, e4, e3⟩
    rw [List.take_length] at e3
    simp at e0 e3 e4
    simp [g72_macadamref03_ends_l0, e0, e2, e4, e3, onB, onN, results, rdRess, rdRes]

/-- the first loads -/
theorem take_get {l : List Int} (hl : lok l) {m : Nat} (hm : m ≤ 5) {k : Nat} (hk : k < m) : (l.take m)[k]? = some (l.getD k 0) := by
  rw [List.getElem?_take, if_pos hk, List.getD_eq_getElem?_getD, List.getElem?_eq_getElem (by rw [hl.1]; omega)]; rfl
theorem c78 (b : Bk) (hok : b.ok = true) (l : List Int) (hl : lok l) (o at_ k : Nat) (kk : SK) (F : List Int) (x : Int) (hx : F[at_]? = some x) (hxb : -1000 ≤ x ∧ x ≤ 1000) (hk : k ≤ b.ms.length) (h : H) (hg : h.get o = some (.cells (iv F))) (ho : o < h.n) :
    dcall pr (.fn 78 [] []) [b.v, .agg [.msl o 0 F.length 1, .sl (iv (l.take b.ms.length)) kk], .int .i64 at_, .int .i64 k] h = some (.int .i64 (x + more b.ms l at_ k), h) := by
  have hlen := ok_len hok
  have hat : at_ < F.length := (List.getElem?_eq_some_iff.1 hx).1
  have hp := part_iv1 hat
  have hxd : F.getD at_ 0 = x := by rw [List.getD_eq_getElem?_getD, hx]; rfl
  rw [hxd] at hp
  suffices hh : ∃ v h', dcall pr (.fn 78 [] []) [b.v, .agg [.msl o 0 F.length 1, .sl (iv (l.take b.ms.length)) kk], .int .i64 at_, .int .i64 k] h = some (v, h') ∧ (v = .int .i64 (x + more b.ms l at_ k) ∧ h' = h) by
    obtain ⟨v, h', h1, rfl, rfl⟩ := hh; exact h1
  refine dcall_of fn78 rfl ?_
  simp [g78_macadamref03_heap, g78_macadamref03_heap_c, hat, ho, hg, hp]
  refine wpr_seq (wpr_oblock (loop_up pr (fun j e h' => h' = h ∧ e 4 = b.bx ∧ e 5 = .lbox 0 [.msl o 0 F.length 1, .sl (iv (l.take b.ms.length)) kk] ∧ e 2 = .int .i64 at_ ∧ e 3 = .int .i64 k ∧ e 10 = .int .i64 j ∧ e 9 = .int .i64 (x + more b.ms l at_ j)) k ?_ ?_ 0 _ _ (by omega) ⟨rfl, rfl, rfl, rfl, rfl, rfl, by simp [more]⟩))
  · rintro j e h' hj ⟨rfl, e4, e5, e2, e3, e10, e9⟩
    have hw : IntKind.wrap .i64 ((j : Int) + 1) = j + 1 := wrap_id (by omega) (by omega)
    have hjk : (j : Int) < k := by omega
    have hjm : j < b.ms.length := by omega
    have hm : b.ms[j]? = some b.ms[j] := List.getElem?_eq_getElem hjm
    have htg := take_get hl hlen.2.2 hjm
    have hbd := more_bd b.ms hl at_ j
    have hn := lok_get hl j
    have hmo := ok_mv hok hm
    have hs : more b.ms l at_ (j + 1) = more b.ms l at_ j + (b.ms[j].off at_ (l.getD j 0) + b.ms[j].onto at_ (l.getD j 0)) := by simp only [more, hm]
    have hml : (l.take b.ms.length).length = b.ms.length := by rw [List.length_take, hl.1]; omega
    rw [hs]
    simp only [Mv.off, Mv.onto]
    have hel : (iv (l.take b.ms.length))[j]? = some (.int .i64 (l.getD j 0)) := by rw [iv_get, htg]; rfl
    generalize iv (l.take b.ms.length) = V at *
    generalize b.ms[j] = m at *
    generalize l.getD j 0 = n at *
    generalize more b.ms l at_ j = M at *
    have w1 : IntKind.wrap .i64 (x + M - n) = x + M - n := wrap_id (by omega) (by omega)
    have w2 : IntKind.wrap .i64 (x + M + n) = x + M + n := wrap_id (by omega) (by omega)
    by_cases q1 : m.f = (at_ : Int)
    · have q2 : ¬ m.t = (at_ : Int) := by omega
      simp [g78_macadamref03_heap_l0, e4, e5, e2, e3, e10, e9, hj, hm, hel, q1, q2, w1, w2, hw]
      omega
    · by_cases q2 : m.t = (at_ : Int)
      · simp [g78_macadamref03_heap_l0, e4, e5, e2, e3, e10, e9, hj, hm, hel, q1, q2, w1, w2, hw]
        omega
      · simp [g78_macadamref03_heap_l0, e4, e5, e2, e3, e10, e9, hj, hm, hel, q1, q2, w1, w2, hw]
  · rintro e h' ⟨rfl, e4, e5, e2, e3, e10, e9⟩
    simp [g78_macadamref03_heap_l0, e3, e10, e9, onB, onN, results, rdRess, rdRes]
end Av
end

section
/- Contracts of the reference: all that was in a heap at first. -/
set_option linter.unusedSimpArgs false
set_option linter.unusedVariables false
namespace Av
open Go (IntKind BinOp UnOp)
def omslice (h : H) (sz : Nat) (zs : List AV) : Option AV → Option AV → Option (AV × H)
  | some (.int _ l), some (.int _ c) => if 0 ≤ l ∧ l = c ∧ l ≤ 1048576 then
            some (.msl h.n 0 l.toNat sz, h.new (.cells ((List.replicate l.toNat zs).flatten))) else none
  | _, _ => none
@[simp] theorem omslice_s (h sz zs k k' l c) : omslice h sz zs (some (.int k l)) (some (.int k' c)) = if 0 ≤ l ∧ l = c ∧ l ≤ 1048576 then
            some (.msl h.n 0 l.toNat sz, h.new (.cells ((List.replicate l.toNat zs).flatten))) else none := rfl
@[simp] theorem rh_mslice (p : AProg) (e h sz zs l c) : stepH p e h (.mslice sz zs l c) = omslice h sz zs (ev p e l) (ev p e c) := by
  rw [stepH]
  cases ev p e l with
  | none => rfl
  | some v =>
    cases ev p e c with
    | none => cases v <;> rfl
    | some w => cases v <;> cases w <;> rfl
theorem rep_iv (n : Nat) : (List.replicate n [AV.int .i64 0]).flatten = iv (List.replicate n 0) := by
  induction n with
  | zero => rfl
  | succ n ih => rw [List.replicate_succ, List.replicate_succ, List.flatten_cons, ih]; rfl

/-- can a heap have had so much at first? -/
def canHad (b : Bk) (l : List Int) (at_ : Nat) (x : Hp) (n : Int) : Bool :=
  decide (x.c ≤ n + more b.ms l at_ b.ms.length ∧ n + more b.ms l at_ b.ms.length ≤ x.d) && (List.range (b.ms.length + 1)).all fun k => decide (0 ≤ n + more b.ms l at_ k)
/-- all that it can have had -/
def hadTo (b : Bk) (l : List Int) (at_ : Nat) (x : Hp) (k : Nat) : List Int := ((List.range k).map fun (i : Nat) => x.a + i).filter (canHad b l at_ x)
def had (b : Bk) (l : List Int) (at_ : Nat) (x : Hp) : List Int := hadTo b l at_ x (x.b - x.a + 1).toNat
theorem hadTo_succ (b : Bk) (l at_ x k) : hadTo b l at_ x (k + 1) = hadTo b l at_ x k ++ (if canHad b l at_ x (x.a + k) then [x.a + (k : Int)] else []) := by
  simp only [hadTo, List.range_succ, List.map_append, List.filter_append, List.map_cons, List.map_nil]
  by_cases h : canHad b l at_ x (x.a + k) <;> simp [List.filter_cons, h]
theorem hadTo_len (b : Bk) (l at_ x k) : (hadTo b l at_ x k).length ≤ k := by
  exact Nat.le_trans (List.length_filter_le _ _) (by simp)

theorem l77_0 (b : Bk) (hok : b.ok = true) (l : List Int) (hl : lok l) (at_ : Nat) (F : List Int) (n : Int) (hx : F[at_]? = some n) (hnb : -1000 ≤ n ∧ n ≤ 1000) (A : Bool) (e h)
    (hg : h.get 0 = some (.cells (iv F))) (h0 : 0 < h.n) (e1 : e 1 = .sl (iv (l.take b.ms.length)) .shut) (e2 : e 2 = .int .i64 at_) (e3 : e 3 = b.bx) (e8 : e 8 = .lbox 0 [.msl 0 0 F.length 1, .sl (iv (l.take b.ms.length)) .shut]) (e10 : e 10 = .bool A) (e11 : e 11 = .int .i64 0) :
    wpr (den pr (.loop g77_macadamref03_firsts_l0) e h) fun o e' h' => o = .exit 2 ∧ h' = h ∧ e' 1 = e 1 ∧ e' 2 = e 2 ∧ e' 3 = e 3 ∧ e' 8 = e 8 ∧ e' 9 = e 9 ∧ e' 7 = e 7 ∧
      e' 10 = .bool (A && (List.range (b.ms.length + 1)).all fun k => decide (0 ≤ n + more b.ms l at_ k)) := by
  have hlen := ok_len hok
  have hml : (l.take b.ms.length).length = b.ms.length := by rw [List.length_take, hl.1]; omega
  refine loop_up pr (fun k e' h' => h' = h ∧ e' 1 = e 1 ∧ e' 2 = e 2 ∧ e' 3 = e 3 ∧ e' 8 = e 8 ∧ e' 9 = e 9 ∧ e' 7 = e 7 ∧ e' 11 = .int .i64 k ∧ e' 10 = .bool (A && (List.range k).all fun k => decide (0 ≤ n + more b.ms l at_ k))) (b.ms.length + 1) ?_ ?_ 0 e h (by omega) ⟨rfl, rfl, rfl, rfl, rfl, rfl, rfl, e11, by simpa using e10⟩
  · rintro k e' h' hk ⟨rfl, q1, q2, q3, q8, q9, q7, q11, q10⟩
    rw [e1] at q1; rw [e2] at q2; rw [e3] at q3; rw [e8] at q8
    have hw : IntKind.wrap .i64 ((k : Int) + 1) = k + 1 := wrap_id (by omega) (by omega)
    have hkm : k ≤ b.ms.length := by omega
    have c := c78 b hok l hl 0 at_ k .shut F n hx hnb hkm h' hg h0
    have hs : (List.range (k + 1)).all (fun k => decide (0 ≤ n + more b.ms l at_ k)) = ((List.range k).all (fun k => decide (0 ≤ n + more b.ms l at_ k)) && decide (0 ≤ n + more b.ms l at_ k)) := by
      rw [List.range_succ, List.all_append]; simp
    rw [hs, ← Bool.and_assoc]
    generalize hq : l.take b.ms.length = q at *
    have hkq : k ≤ q.length := by omega
    cases hA : (A && (List.range k).all fun k => decide (0 ≤ n + more b.ms l at_ k)) with
    | false =>
      rw [hA] at q10
      simp [g77_macadamref03_firsts_l0, q1, q2, q3, q8, q9, q7, q11, q10, hkq, hw, e1, e2, e3, e8]
    | true =>
      rw [hA] at q10
      simp [g77_macadamref03_firsts_l0, q1, q2, q3, q8, q9, q7, q11, q10, hkq, hw, c, e1, e2, e3, e8]
  · rintro e' h' ⟨rfl, q1, q2, q3, q8, q9, q7, q11, q10⟩
    rw [e1] at q1
    have hkq : ¬ (b.ms.length : Int) + 1 ≤ (l.take b.ms.length).length := by omega
    generalize hq : l.take b.ms.length = q at *
    simp [g77_macadamref03_firsts_l0, q1, q11, hkq, q2, q3, q8, q9, q7, e1]
    exact q10

theorem c77 (b : Bk) (hok : b.ok = true) (l : List Int) (hl : lok l) (at_ : Nat) (hat : at_ < b.hs.length) (x : Hp) (hx : b.hs[at_]? = some x) :
    icall pr (.fn 77 [] []) [b.v, .sl (iv (l.take b.ms.length)) .shut, .int .i64 at_] = some (.sl (iv (had b l at_ x)) .shut) := by
  have hlen := ok_len hok
  have hxo := ok_hp hok hx
  have hml : (l.take b.ms.length).length = b.ms.length := by rw [List.length_take, hl.1]; omega
  have hxx : b.hs[at_] = x := by rw [List.getElem?_eq_getElem hat] at hx; exact Option.some.inj hx
  refine icall_fn fn77 rfl (by simp) (by simp) (by simp) ?_
  have hh4 : (b.hs.length : Int) ≤ 1048576 := by omega
  have hrep := rep_iv b.hs.length
  simp [g77_macadamref03_firsts, g77_macadamref03_firsts_c, hh4, hrep, hat, hxx]
  refine wpr_seq (wpr_oblock (loop_up pr (fun k e h => e 1 = .sl (iv (l.take b.ms.length)) .shut ∧ e 2 = .int .i64 at_ ∧ e 3 = b.bx ∧ e 8 = .lbox 0 [.msl 0 0 b.hs.length 1, .sl (iv (l.take b.ms.length)) .shut] ∧ e 9 = .int .i64 (x.a + k) ∧ 0 < h.n ∧
    ∃ kk F, e 7 = .sl (iv (hadTo b l at_ x k)) kk ∧ Opn h kk ∧ h.get 0 = some (.cells (iv F)) ∧ F.length = b.hs.length) (x.b - x.a + 1).toNat ?_ ?_ 0 _ _ (by omega) ⟨rfl, rfl, rfl, rfl, by simp, by simp, .exact, List.replicate b.hs.length 0, rfl, trivial, by simp, by simp⟩))
  · rintro k e h hk ⟨e1, e2, e3, e8, e9, h0, kk, F, e7, hop, hg, hF⟩
    have hle : x.a + (k : Int) ≤ x.b := by omega
    have hw : IntKind.wrap .i64 (x.a + (k : Int) + 1) = x.a + ((k : Int) + 1) := by rw [wrap_id (by omega) (by omega)]; omega
    have hsp := splice_iv1 (l := F) (k := at_) (x.a + (k : Int)) (by omega)
    have hF2 : (F.set at_ (x.a + (k : Int))).length = b.hs.length := by rw [List.length_set]; exact hF
    have hx2 : (F.set at_ (x.a + (k : Int)))[at_]? = some (x.a + (k : Int)) := by rw [List.getElem?_set]; simp; omega
    have hop2 : Opn (h.put 0 (.cells (iv (F.set at_ (x.a + (k : Int)))))) kk := by
      cases kk with
      | exact => trivial
      | shut => exact hop
      | opn t =>
        simp only [Opn] at hop ⊢
        have : t ≠ 0 := by rintro rfl; rw [hg] at hop; cases hop
        simp [this, hop]
    have hg2 : (h.put 0 (.cells (iv (F.set at_ (x.a + (k : Int)))))).get 0 = some (.cells (iv (F.set at_ (x.a + (k : Int))))) := by simp
    have c := c78 b hok l hl 0 at_ b.ms.length .shut (F.set at_ (x.a + (k : Int))) _ hx2 (by omega) (Nat.le_refl _) (h.put 0 (.cells (iv (F.set at_ (x.a + (k : Int)))))) hg2 (by simpa using h0)
    have l0 := l77_0 b hok l hl at_ (F.set at_ (x.a + (k : Int))) _ hx2 (by omega)
    rw [hF2] at c
    have hF4 : at_ + 1 ≤ b.hs.length := by omega
    have c2 := c39 x.c x.d (x.a + (k : Int) + more b.ms l at_ b.ms.length)
    have hsu := hadTo_succ b l at_ x k
    have hcan : canHad b l at_ x (x.a + k) = (decide (x.c ≤ x.a + (k : Int) + more b.ms l at_ b.ms.length ∧ x.a + (k : Int) + more b.ms l at_ b.ms.length ≤ x.d) && (List.range (b.ms.length + 1)).all fun j => decide (0 ≤ x.a + (k : Int) + more b.ms l at_ j)) := rfl
    have hhl := hadTo_len b l at_ x k
    generalize hh1 : h.put 0 (.cells (iv (F.set at_ (x.a + (k : Int))))) = h1 at *
    have h10 : 0 < h1.n := by rw [← hh1]; simpa using h0
    generalize hq : l.take b.ms.length = q at *
    simp [g77_macadamref03_firsts_l1, e1, e2, e3, e8, e9, e7, hle, hat, hxx, hg, hF, hF4, hsp, hh1, hml, c, c2]
    simp only [hF2] at l0
    refine wpr_seq (wpr_oblock (wpr_seq (wpr_oblock (wpr_mono (l0 _ _ h1 hg2 h10 (by simp [e1]) (by simp [e2]) (by simp [e3]) (by simp [e8]) rfl rfl) ?_))))
    rintro o e' h' ⟨rfl, rfl, q1, q2, q3, q8, q9, q7, q10⟩
    simp [e1] at q1
    simp [e2] at q2
    simp [e3] at q3
    simp [e8] at q8
    simp [e9] at q9
    simp [e7] at q7
    have hq10 : e' 10 = .bool (canHad b l at_ x (x.a + k)) := by rw [q10, hcan]; simp
    cases hc : canHad b l at_ x (x.a + k) with
    | true =>
      rw [hc] at hq10 hsu
      rw [if_pos rfl] at hsu
      obtain ⟨k2, h2, ha, hb, hn2, hfr⟩ := app_ok (bytes := 8) (new := [.int .i64 (x.a + k)]) (k2 := .exact) (sz := 1) (es := iv (hadTo b l at_ x k)) hop2 (by simp) (iv_cell1 _) (by simp) (by simp; omega)
      have hg3 : h2.get 0 = some (.cells (iv (F.set at_ (x.a + (k : Int))))) := by rw [hfr 0 h10 (by rw [hg2]; simp)]; exact hg2
      simp at ha
      simp [onB, onN, hq10, q1, q2, q3, q8, q9, q7, ha, hw, hsu, hb, hg3]
      exact ⟨by omega, _, rfl, hF2⟩
    | false =>
      rw [hc] at hq10 hsu
      simp only [Bool.false_eq_true, if_false, List.append_nil] at hsu
      simp [onB, onN, hq10, q1, q2, q3, q8, q9, q7, hw, hsu, hop2, h10]
      exact ⟨_, hg2, hF2⟩
  · rintro e h ⟨e1, e2, e3, e8, e9, h0, kk, F, e7, hop, hg, hF⟩
    have hle : ¬ x.a + ((x.b - x.a + 1).toNat : Int) ≤ x.b := by omega
    rw [had]
    generalize (x.b - x.a + 1).toNat = N at *
    simp [g77_macadamref03_firsts_l1, e1, e2, e3, e8, e9, e7, hle, hat, hxx, onB, onN, results, rdRess, rdRes]
end Av
end

section
/- Contracts of the reference: all that loads can have had. -/
set_option linter.unusedSimpArgs false
set_option linter.unusedVariables false
namespace Av
open Go (IntKind BinOp UnOp)
theorem c87 (s n : Nat) (hs : s < 64) (hn : n < 6) : icall pr (.fn 87 [] []) [.int .i64 s, .int .i64 n] = some (.bool (s.testBit n)) := by
  refine icall_fn fn87 rfl rfl rfl rfl ?_
  have b1 := bin_shr s n hs hn
  have hlt : s / 2 ^ n < 64 := Nat.lt_of_le_of_lt (Nat.div_le_self _ _) hs
  have b2 := bin_and (s / 2 ^ n) 1 hlt (by omega)
  rw [Nat.and_one_is_mod] at b2
  have ht : s.testBit n = decide (s / 2 ^ n % 2 = 1) := Nat.testBit_eq_decide_div_mod_eq
  rw [ht]
  generalize s / 2 ^ n = q at *
  generalize q % 2 = y at *
  simp only [Int.natCast_one] at b2
  simp [g87_macadamref00_In, g87_macadamref00_In_c, results, rdRess, rdRes, b1, b2]
  omega

/-- lists of numbers in a list -/
def lv (L : List (List Int)) : List AV := L.map fun q => .sl (iv q) .shut
@[simp] theorem lv_nil : lv [] = [] := rfl
@[simp] theorem lv_append (a b) : lv (a ++ b) = lv a ++ lv b := by simp [lv]
@[simp] theorem lv_len (L) : (lv L).length = L.length := by simp [lv]
@[simp] theorem lv_get (L : List (List Int)) (k : Nat) : (lv L)[k]? = L[k]?.map fun q => .sl (iv q) .shut := by simp [lv]
@[simp] theorem lv_getE (L : List (List Int)) (k : Nat) (h) : (lv L)[k]'h = .sl (iv (L[k]'(by simpa using h))) .shut := by simp [lv]
@[simp] theorem lv_clean (L) : cleans (lv L) = true := by
  induction L with
  | nil => rfl
  | cons x L ih => simpa [lv] using ih
@[simp] theorem lv_cell1 (L) : (lv L).all (fun v => decide (v.cells.length = 1)) = true := by simp [lv]
@[simp] theorem lv_cell1f (L) : (lv L).all (fun v => decide (v.cells.length = 1) && v.flats) = true := by simp [lv]
@[simp] theorem lv_shut (L) : (lv L).map AV.shutv = lv L := by simp [lv]

theorem lowTo_le (ms : List Mv) (l : List Int) (x lo n : Int) (k : Nat) : lowTo ms l x lo k ≤ n ↔ lo ≤ n ∧ ∀ j, j < k → -more ms l x j ≤ n := by
  induction k with
  | zero => simp [lowTo]
  | succ k ih =>
    simp only [lowTo]
    constructor
    · intro h
      have h1 := ih.1 (by omega)
      refine ⟨h1.1, fun j hj => ?_⟩
      by_cases hq : j = k
      · subst hq; omega
      · exact h1.2 j (by omega)
    · rintro ⟨h1, h2⟩
      have := ih.2 ⟨h1, fun j hj => h2 j (by omega)⟩
      have := h2 k (by omega)
      omega
/-- what a heap can have had at first: all from the least to the most -/
theorem had_mem (b : Bk) (l : List Int) (at_ : Nat) (x : Hp) (n : Int) : n ∈ had b l at_ x ↔ b.firstLo l at_ x ≤ n ∧ n ≤ b.firstHi l at_ x := by
  simp only [had, hadTo, List.mem_filter, List.mem_map, List.mem_range, canHad, Bool.and_eq_true, decide_eq_true_eq, List.all_eq_true, Bk.firstLo, Bk.firstHi, lowTo_le]
  constructor
  · rintro ⟨⟨i, h1, rfl⟩, ⟨h2, h3⟩, h4⟩
    refine ⟨⟨by omega, fun j hj => by have := h4 j hj; omega⟩, by omega⟩
  · rintro ⟨⟨h1, h2⟩, h3⟩
    refine ⟨⟨(n - x.a).toNat, by omega, by omega⟩, ⟨by omega, by omega⟩, fun j hj => by have := h2 j hj; omega⟩
theorem had_nil (b : Bk) (l : List Int) (at_ : Nat) (x : Hp) : (had b l at_ x).length = 0 ↔ ¬ b.firstLo l at_ x ≤ b.firstHi l at_ x := by
  rw [List.length_eq_zero_iff]
  constructor
  · intro h hle
    have := (had_mem b l at_ x (b.firstLo l at_ x)).2 ⟨Int.le_refl _, hle⟩
    rw [h] at this; cases this
  · intro h
    rw [List.eq_nil_iff_forall_not_mem]
    intro n hn
    have := (had_mem b l at_ x n).1 hn
    omega
theorem carts_len (b : Bk) (bs : Nat → Bool) : ∀ r l, (b.carts bs l r).length ≤ 7 ^ r := by
  intro r
  induction r with
  | zero => intro l; simp only [Bk.carts]; split <;> simp
  | succ r ih =>
    intro l
    simp only [Bk.carts]
    have : ∀ k, ((List.range k).flatMap fun (n : Nat) => if b.right bs (b.ms.length - (r + 1)) (n : Int) then b.carts bs (l.set (b.ms.length - (r + 1)) (n : Int)) r else []).length ≤ k * 7 ^ r := by
      intro k
      induction k with
      | zero => simp
      | succ k ihk =>
        rw [List.range_succ, List.flatMap_append, List.length_append, Nat.succ_mul]
        simp only [List.flatMap_cons, List.flatMap_nil, List.append_nil]
        refine Nat.add_le_add ihk ?_
        split
        · exact ih _
        · simp
    exact Nat.le_trans (this 7) (by rw [Nat.pow_succ]; omega)
theorem take_setl {l : List Int} (hl : lok l) {k : Nat} (hk : k < 5) (n : Int) : (l.set k n).take (k + 1) = l.take k ++ [n] := by
  rw [List.take_add_one, List.getElem?_set, List.take_set_of_le (Nat.le_refl _)]
  simp [hl.1, hk]
def cartL (b : Bk) (bs : Nat → Bool) (l : List Int) (r : Nat) : List (List Int) := (b.carts bs l r).map fun q => q.take b.ms.length

theorem l58_0 (b : Bk) (hok : b.ok = true) (l : List Int) (hl : lok l) (e h) (e2 : e 2 = .sl (iv (l.take b.ms.length)) .shut) (e3 : e 3 = b.bx) (e8 : e 8 = .int .i64 0) :
    wpr (den pr (.loop g58_macadamref03_carted_l0) e h) fun o e' h' => h' = h ∧ (if b.fits l then o = .exit 0 ∧ e' 2 = e 2 else o = .ret ∧ e' 6 = .sl [] .exact) := by
  have hlen := ok_len hok
  refine loop_up pr (fun k e' h' => h' = h ∧ e' 2 = e 2 ∧ e' 3 = e 3 ∧ e' 8 = .int .i64 k ∧ ∀ j, j < k → ∀ x, b.hs[j]? = some x → b.firstLo l j x ≤ b.firstHi l j x) b.hs.length ?_ ?_ 0 e h (by omega) ⟨rfl, rfl, rfl, e8, by omega⟩
  · rintro k e' h' hk ⟨rfl, q2, q3, q8, hfit⟩
    rw [e2] at q2; rw [e3] at q3
    have hw : IntKind.wrap .i64 ((k : Int) + 1) = k + 1 := wrap_id (by omega) (by omega)
    have hx : b.hs[k]? = some b.hs[k] := List.getElem?_eq_getElem hk
    have c := c77 b hok l hl k hk _ hx
    have hn := had_nil b l k b.hs[k]
    generalize had b l k b.hs[k] = D at *
    generalize hq : l.take b.ms.length = q at *
    by_cases hle : b.firstLo l k b.hs[k] ≤ b.firstHi l k b.hs[k]
    · have hD : ¬ D.length = 0 := fun h => (hn.1 h) hle
      have hD' : ¬ D = [] := fun h => hD (by rw [h]; rfl)
      simp [g58_macadamref03_carted_l0, q2, q3, q8, hk, c, hD, hD', hw, e2, e3]
      intro j hj y hy
      by_cases h1 : j < k
      · exact hfit j h1 y hy
      · have : j = k := by omega
        subst this; rw [hx] at hy; cases hy; exact hle
    · have hD : D.length = 0 := hn.2 hle
      have hD' : D = [] := List.length_eq_zero_iff.1 hD
      have hnf : b.fits l = false := by
        rw [← Bool.not_eq_true, fits_iff]
        exact fun h => hle (h k _ hx)
      simp [g58_macadamref03_carted_l0, q2, q3, q8, hk, c, hD', hw, e2, e3, hnf, onB]
  · rintro e' h' ⟨rfl, q2, q3, q8, hfit⟩
    rw [e3] at q3
    have hnf : b.fits l = true := by
      rw [fits_iff]
      intro k x hx
      exact hfit k (List.getElem?_eq_some_iff.1 hx).1 x hx
    simp [g58_macadamref03_carted_l0, q2, q3, q8, hnf]

theorem dc58 (b : Bk) (hok : b.ok = true) (but : Nat) (hbut : but < 64) : ∀ (r at_ : Nat) (l : List Int), at_ + r = b.ms.length → lok l →
    icall pr (.fn 58 [] []) [b.v, .int .i64 but, .sl (iv (l.take at_)) .shut] = some (.sl (lv (cartL b (fun k => but.testBit k) l r)) .shut) := by
  intro r
  induction r with
  | zero =>
    intro at_ l hat hl
    have hlen := ok_len hok
    have hat2 : at_ = b.ms.length := by omega
    subst hat2
    have hml : (l.take b.ms.length).length = b.ms.length := by rw [List.length_take, hl.1]; omega
    refine icall_fn fn58 rfl rfl (by simp) (by simp) ?_
    have l0 := l58_0 b hok l hl
    simp [g58_macadamref03_carted, g58_macadamref03_carted_c, hml]
    generalize hq : l.take b.ms.length = q at *
    refine wpr_seq (wpr_seq (wpr_oblock (wpr_mono (l0 _ _ rfl rfl rfl) ?_)))
    rintro o e h' ⟨rfl, hf⟩
    by_cases hfit : b.fits l = true
    · rw [if_pos hfit] at hf
      obtain ⟨rfl, q2⟩ := hf
      simp at q2
      simp [onB, onN, q2, results, rdRess, rdRes, cartL, Bk.carts, hfit, lv, hq, List.replicate]
    · rw [if_neg hfit] at hf
      obtain ⟨rfl, q6⟩ := hf
      simp [onB, onN, q6, results, rdRess, rdRes, cartL, Bk.carts, hfit]
  | succ r ih =>
    intro at_ l hat hl
    have hlen := ok_len hok
    have hml : (l.take at_).length = at_ := by rw [List.length_take, hl.1]; omega
    have hatm : ¬ (at_ : Int) = b.ms.length := by omega
    have hatl : at_ < b.ms.length := by omega
    have hat3 : b.ms.length - (r + 1) = at_ := by omega
    have hm : b.ms[at_]? = some b.ms[at_] := List.getElem?_eq_getElem hatl
    have hmo := ok_mv hok hm
    refine icall_fn fn58 rfl rfl (by simp) (by simp) ?_
    let f : Nat → List (List Int) := fun n => if b.right (fun k => but.testBit k) at_ (n : Int) then cartL b (fun k => but.testBit k) (l.set at_ (n : Int)) r else []
    have hall : cartL b (fun k => but.testBit k) l (r + 1) = (List.range 7).flatMap f := by
      simp only [cartL, Bk.carts, hat3, f, List.map_flatMap]
      congr 1; funext n; split <;> rfl
    have hsucc : ∀ k, (List.range (k + 1)).flatMap f = (List.range k).flatMap f ++ f k := by
      intro k; simp [List.range_succ]
    have hfl : ∀ k, (f k).length ≤ 16807 := by
      intro k
      simp only [f]; split
      · have := carts_len b (fun k => but.testBit k) r (l.set at_ (k : Int))
        have h7 : 7 ^ r ≤ 7 ^ 5 := Nat.pow_le_pow_right (by omega) (by omega)
        simp only [cartL, List.length_map]; omega
      · simp
    have hflk : ∀ k, ((List.range k).flatMap f).length ≤ k * 16807 := by
      intro k
      induction k with
      | zero => simp
      | succ k ihk => rw [hsucc, List.length_append]; have := hfl k; omega
    have hr : ∀ k : Nat, b.right (fun k => but.testBit k) at_ (k : Int) = (but.testBit at_ || decide (0 ≤ b.ms[at_].n - k ∧ b.ms[at_].n - k ≤ b.lie b.ms[at_].c)) := fun k => by simp only [Bk.right, hm]
    have c1 := c87 but at_ hbut (by omega)
    rw [hall]
    simp [g58_macadamref03_carted, g58_macadamref03_carted_c, hml, hatm, hatl]
    generalize hmm : b.ms[at_] = m at *
    refine wpr_seq (wpr_oblock (loop_up pr (fun k e h => e 1 = .int .i64 but ∧ e 2 = .sl (iv (l.take at_)) .shut ∧ e 3 = b.bx ∧ e 7 = .int .i64 at_ ∧ e 10 = .lbox 0 [.int .i64 m.f, .int .i64 m.t, .int .i64 m.c, .int .i64 m.n] ∧ e 11 = .int .i64 k ∧
      ∃ kk, e 9 = .sl (lv ((List.range k).flatMap f)) kk ∧ Opn h kk) 7 ?_ ?_ 0 _ _ (by omega) ⟨rfl, rfl, rfl, rfl, rfl, rfl, .exact, rfl, trivial⟩))
    · rintro k e h hk ⟨e1, e2, e3, e7, e10, e11, kk, e9, hop⟩
      have hw : IntKind.wrap .i64 ((k : Int) + 1) = k + 1 := wrap_id (by omega) (by omega)
      have hw2 : IntKind.wrap .i64 (m.n - (k : Int)) = m.n - k := wrap_id (by omega) (by omega)
      have hk6 : (k : Int) ≤ 6 := by omega
      have hrk := hr k
      have c2 := c63 (m.n - k) 0 (b.lie m.c)
      have hsu := hsucc k
      have hll := lok_set hl at_ k hk
      have hput := c92 (l.take at_) (by omega) k
      rw [← take_setl hl (show at_ < 5 by omega) (k : Int)] at hput
      have hcar := ih (at_ + 1) (l.set at_ (k : Int)) (by omega) hll
      have hfk1 := hfl k
      have hfk2 := hflk k
      have go : b.right (fun k => but.testBit k) at_ (k : Int) = true → ∃ k2 h2, oapp h 1 24 (some (.sl (lv ((List.range k).flatMap f)) kk)) (some (.sl (lv (cartL b (fun k => but.testBit k) (l.set at_ (k : Int)) r)) .shut)) = some (.sl (lv ((List.range (k + 1)).flatMap f)) k2, h2) ∧ Opn h2 k2 := by
        intro hri
        have hfk : f k = cartL b (fun k => but.testBit k) (l.set at_ (k : Int)) r := by simp only [f, hri, if_true]
        rw [← hfk, hsu]
        by_cases hz : f k = []
        · rw [hz]; exact ⟨kk, h, by simp [app_nil], hop⟩
        · have hz2 : (f k).length ≠ 0 := fun h => hz (List.length_eq_zero_iff.1 h)
          obtain ⟨k2, h2, ha, hb, _⟩ := app_ok (h := h) (k := kk) (bytes := 24) (new := lv (f k)) (k2 := .shut) (sz := 1) (es := lv ((List.range k).flatMap f)) hop (by simpa using hz2) (lv_cell1 _) (lv_cell1f _) (by simp only [lv_len]; omega)
          refine ⟨k2, h2, ?_, hb⟩
          rw [ha]; simp
      have skip : b.right (fun k => but.testBit k) at_ (k : Int) = false → (List.range (k + 1)).flatMap f = (List.range k).flatMap f := by
        intro hri
        have hfk : f k = [] := by simp only [f, hri]; rfl
        rw [hsu, hfk, List.append_nil]
      generalize hq : l.take at_ = q at *
      generalize hq2 : (l.set at_ (k : Int)).take (at_ + 1) = q2 at *
      generalize lv (cartL b (fun k => but.testBit k) (l.set at_ (k : Int)) r) = CL at *
      generalize (List.range (k + 1)).flatMap f = L2 at *
      generalize (List.range k).flatMap f = L1 at *
      cases hbt : but.testBit at_ with
      | true =>
        rw [hbt] at c1
        have hri : b.right (fun k => but.testBit k) at_ (k : Int) = true := by rw [hrk, hbt]; rfl
        obtain ⟨k2, h2, ha, hb⟩ := go hri
        simp [g58_macadamref03_carted_l1, e1, e2, e3, e7, e10, e11, e9, hk6, c1, hw, hput, hcar, ha, hb]
      | false =>
        rw [hbt] at c1 hrk
        rw [Bool.false_or] at hrk
        rw [← hrk] at c2
        cases hri : b.right (fun k => but.testBit k) at_ (k : Int) with
        | true =>
          obtain ⟨k2, h2, ha, hb⟩ := go hri
          rw [hri] at c2
          rcases (show m.c = 0 ∨ m.c = 1 ∨ m.c = 2 ∨ m.c = 3 by omega) with h1 | h1 | h1 | h1 <;> rw [h1] at c2 <;> simp only [Bk.lie, reduceIte, Int.reduceEq] at c2 <;>
            simp [g58_macadamref03_carted_l1, e1, e2, e3, e7, e10, e11, e9, hk6, c1, c2, hw, hw2, h1, hput, hcar, ha, hb]
        | false =>
          rw [skip hri]
          rw [hri] at c2
          rcases (show m.c = 0 ∨ m.c = 1 ∨ m.c = 2 ∨ m.c = 3 by omega) with h1 | h1 | h1 | h1 <;> rw [h1] at c2 <;> simp only [Bk.lie, reduceIte, Int.reduceEq] at c2 <;>
            simp [g58_macadamref03_carted_l1, e1, e2, e3, e7, e10, e11, e9, hk6, c1, c2, hw, hw2, h1, hop]
    · rintro e h ⟨e1, e2, e3, e7, e10, e11, kk, e9, hop⟩
      generalize (List.range 7).flatMap f = L1 at *
      simp [g58_macadamref03_carted_l1, e11, e9, onB, onN, results, rdRess, rdRes]
end Av
end

section
/- Contracts of the reference: what is asked; Right, Yards. -/
set_option linter.unusedSimpArgs false
set_option linter.unusedVariables false
namespace Av
open Go (IntKind BinOp UnOp)
def Bk.TL (b : Bk) : List (List Int) := b.T.map fun q => q.take b.ms.length
theorem bit0 : (fun k => Nat.testBit 0 k) = inL [] := by funext k; simp [inL]
theorem cart0 (b : Bk) : cartL b (fun k => Nat.testBit 0 k) zeros b.ms.length = b.TL := by rw [bit0]; rfl
theorem TL_len (b : Bk) : b.TL.length = b.T.length := by simp [Bk.TL]
theorem T_len {b : Bk} (hok : b.ok = true) : b.T.length ≤ 16807 := by
  have := carts_len b (inL []) b.ms.length zeros
  have h5 := (ok_len hok).2.2
  have h7 : 7 ^ b.ms.length ≤ 7 ^ 5 := Nat.pow_le_pow_right (by omega) h5
  exact Nat.le_trans this (by simpa using h7)
theorem T_c (b : Bk) : (b.T.length = 0) ↔ b.c = false := by
  simp only [Bk.c, Bk.can, Bk.T]
  cases b.all (inL []) <;> simp
theorem r58 (b : Bk) (hok : b.ok = true) : icall pr (.fn 58 [] []) [b.v, .int .i64 0, .sl [] .shut] = some (.sl (lv b.TL) .shut) := by
  have := dc58 b hok 0 (by omega) b.ms.length 0 zeros (by omega) lok_zeros
  rw [cart0] at this
  exact this
theorem c16 (b : Bk) (hb : b.fit) : icall pr (.fn 16 [] []) [b.v] = some (.tup [.bool (b.ok && b.can (inL [])), .int .i64 (if b.ok then 0 else 30)]) := by
  refine icall_fn fn16 rfl (by simp) (by simp) rfl ?_
  cases hok : b.ok with
  | false => simp [g16_macadamref03_Right, g16_macadamref03_Right_c, c18 b hb, hok, results, rdRess, rdRes]
  | true =>
    have c := r58 b hok
    have hT := T_c b
    have hl := TL_len b
    have hcc : b.can (inL []) = b.c := rfl
    rw [hcc]
    cases hc : b.c with
    | false =>
      have h0 : b.TL.length = 0 := by rw [hl]; exact hT.2 hc
      generalize b.TL = Q at *
      simp [g16_macadamref03_Right, g16_macadamref03_Right_c, c18 b hb, hok, c, h0, results, rdRess, rdRes]
    | true =>
      have h0 : 0 < b.TL.length := by
        rw [hl]; refine Nat.pos_of_ne_zero fun h => ?_
        rw [hT.1 h] at hc; cases hc
      generalize b.TL = Q at *
      simp [g16_macadamref03_Right, g16_macadamref03_Right_c, c18 b hb, hok, c, h0, results, rdRess, rdRes]
def askL (b : Bk) (is : Bool) : List (List Int) := if askE b is = 0 then b.TL else []
theorem c70 (b : Bk) (hb : b.fit) (is : Bool) : icall pr (.fn 70 [] []) [b.v, .bool is] = some (.tup [.sl (lv (askL b is)) .shut, .int .i64 (askE b is)]) := by
  refine icall_fn fn70 rfl (by simp) (by simp) (by simp) ?_
  cases hok : b.ok with
  | false => simp [g70_macadamref03_asked, g70_macadamref03_asked_c, c18 b hb, hok, results, rdRess, rdRes, askL, askE]
  | true =>
    cases is with
    | false => simp [g70_macadamref03_asked, g70_macadamref03_asked_c, c18 b hb, hok, results, rdRess, rdRes, askL, askE]
    | true =>
      have c := r58 b hok
      have hT := T_c b
      have hl := TL_len b
      have hE : askE b true = if b.c then 0 else 32 := askE_ok hok rfl
      cases hc : b.c with
      | false =>
        have h0 : b.TL.length = 0 := by rw [hl]; exact hT.2 hc
        have h1 : b.TL = [] := List.length_eq_zero_iff.1 h0
        rw [hc] at hE
        rw [h1] at c
        simp [g70_macadamref03_asked, g70_macadamref03_asked_c, c18 b hb, hok, c, hE, askL, results, rdRess, rdRes]
      | true =>
        have h0 : ¬ b.TL.length = 0 := by
          rw [hl]; intro h
          rw [hT.1 h] at hc; cases hc
        have h1 : ¬ b.TL = [] := fun h => h0 (by rw [h]; rfl)
        rw [hc] at hE
        simp only [askL, hE, if_true]
        generalize b.TL = Q at *
        simp [g70_macadamref03_asked, g70_macadamref03_asked_c, c18 b hb, hok, c, h0, h1, results, rdRess, rdRes]
/-- the least and the most of a list, told by what they are -/
theorem foldl_min (l : List Int) : ∀ x : Int, (∀ y ∈ x :: l, l.foldl min x ≤ y) ∧ l.foldl min x ∈ x :: l := by
  induction l with
  | nil => intro x; simp
  | cons a l ih =>
    intro x
    simp only [List.foldl_cons]
    obtain ⟨h1, h2⟩ := ih (min x a)
    refine ⟨fun y hy => ?_, ?_⟩
    · have h3 := h1 (min x a) (by simp)
      rcases List.mem_cons.1 hy with rfl | hy
      · omega
      · rcases List.mem_cons.1 hy with rfl | hy
        · omega
        · exact h1 y (by simp [hy])
    · rcases List.mem_cons.1 h2 with h | h
      · rw [h]
        rcases Int.le_total x a with hq | hq
        · rw [Int.min_eq_left hq]; simp
        · rw [Int.min_eq_right hq]; simp
      · simp [h]
theorem foldl_max (l : List Int) : ∀ x : Int, (∀ y ∈ x :: l, y ≤ l.foldl max x) ∧ l.foldl max x ∈ x :: l := by
  induction l with
  | nil => intro x; simp
  | cons a l ih =>
    intro x
    simp only [List.foldl_cons]
    obtain ⟨h1, h2⟩ := ih (max x a)
    refine ⟨fun y hy => ?_, ?_⟩
    · have h3 := h1 (max x a) (by simp)
      rcases List.mem_cons.1 hy with rfl | hy
      · omega
      · rcases List.mem_cons.1 hy with rfl | hy
        · omega
        · exact h1 y (by simp [hy])
    · rcases List.mem_cons.1 h2 with h | h
      · rw [h]
        rcases Int.le_total x a with hq | hq
        · rw [Int.max_eq_right hq]; simp
        · rw [Int.max_eq_left hq]; simp
      · simp [h]
theorem r72 (A : List Int) (lo hi : Int) (hA : (A.length : Int) ≤ 9223372036854775807) (h1 : ∀ y ∈ A, lo ≤ y ∧ y ≤ hi) (h2 : lo ∈ A) (h3 : hi ∈ A) :
    icall pr (.fn 72 [] []) [.sl (iv A) .shut] = some (.agg [.int .i64 lo, .int .i64 hi]) := by
  cases A with
  | nil => cases h2
  | cons x l =>
    rw [c72 x l hA]
    obtain ⟨m1, m2⟩ := foldl_min l x
    obtain ⟨m3, m4⟩ := foldl_max l x
    have e1 := m1 lo h2
    have e2 := (h1 _ m2).1
    have e3 := m3 hi h3
    have e4 := (h1 _ m4).2
    rw [show l.foldl min x = lo by omega, show l.foldl max x = hi by omega]
theorem TL_get {b : Bk} (i : Nat) (h : i < b.T.length) : b.TL[i]? = some ((b.T[i]).take b.ms.length) := by
  simp [Bk.TL, h]
theorem T_lok {b : Bk} (hok : b.ok = true) (i : Nat) (h : i < b.T.length) : lok b.T[i] := all_lok b _ _ (List.getElem_mem h)
/-- numbers of truths, in order -/
theorem mem_T {b : Bk} (hok : b.ok = true) {l : List Int} : l ∈ b.T ↔ Trn b l := mem_all hok
theorem r72T {b : Bk} (hok : b.ok = true) (hc : b.c = true) (g : List Int → Int) :
    icall pr (.fn 72 [] []) [.sl (iv (b.T.map g)) .shut] = some (.agg [.int .i64 (tell (fun l => (g l, g l)) b.T).1, .int .i64 (tell (fun l => (g l, g l)) b.T).2]) := by
  obtain ⟨h1, ⟨l, hl, h2⟩, ⟨l', hl', h3⟩⟩ := tell_T hok hc (fun l => (g l, g l))
  have hlen := T_len hok
  refine r72 _ _ _ (by simp; omega) (fun y hy => ?_) ?_ ?_
  · obtain ⟨q, hq, rfl⟩ := List.mem_map.1 hy
    exact h1 q ((mem_T hok).1 hq)
  · rw [h2]; exact List.mem_map.2 ⟨l, (mem_T hok).2 hl, rfl⟩
  · rw [h3]; exact List.mem_map.2 ⟨l', (mem_T hok).2 hl', rfl⟩
theorem map_take {α β : Type} (l : List α) (g : α → β) (k : Nat) (h : k < l.length) : (l.take (k + 1)).map g = (l.take k).map g ++ [g l[k]] := by
  rw [List.take_add_one, List.getElem?_eq_getElem h, List.map_append]; rfl

theorem c20 (b : Bk) (hb : b.fit) (k : Int) : icall pr (.fn 20 [] []) [b.v, .int .i64 k] = some (spanV (b.yards k)) := by
  have c1 := c71 b hb k
  have c2 := c70 b hb (isMv b k)
  refine icall_fn fn20 rfl (by simp) (by simp) rfl ?_
  have hE : b.yards k = ans (askE b (isMv b k)) (tell (yardF k.toNat) b.T) := rfl
  rw [hE]
  by_cases hz : askE b (isMv b k) = 0
  · obtain ⟨hok, h2, h3⟩ := askE_zero.1 hz
    have hc : b.c = true := h3
    have hlen := ok_len hok
    rw [hz] at c2
    simp only [askL, hz, if_true] at c2
    simp only [isMv, decide_eq_true_eq] at h2
    obtain ⟨n, rfl⟩ := Int.eq_ofNat_of_zero_le h2.1
    have hnm : n < b.ms.length := by omega
    have c3 := r72T hok hc (fun l => l.getD n 0)
    have hyf : (fun l : List Int => (l.getD n 0, l.getD n 0)) = yardF n := rfl
    rw [hyf] at c3
    have hTl := T_len hok
    have hTL := TL_len b
    rw [hz]
    simp only [ans, if_true, Int.toNat_natCast]
    generalize tell (yardF n) b.T = R at *
    simp [g20_macadamref03_Yards, g20_macadamref03_Yards_c, c1, c2]
    refine wpr_seq (wpr_oblock (loop_up pr (fun i e h => e 1 = .int .i64 n ∧ e 4 = .lbox 0 [.int .i64 0, .int .i64 0] ∧ e 6 = .sl (lv b.TL) .shut ∧ e 9 = .int .i64 i ∧ ∃ kk, e 8 = .sl (iv ((b.T.take i).map fun l => l.getD n 0)) kk ∧ Opn h kk) b.T.length ?_ ?_ 0 _ _ (by omega) ⟨rfl, rfl, rfl, rfl, .exact, rfl, trivial⟩))
    · rintro i e h hi ⟨e1, e4, e6, e9, kk, e8, hop⟩
      have hw : IntKind.wrap .i64 ((i : Int) + 1) = i + 1 := wrap_id (by omega) (by omega)
      obtain ⟨k2, h2, ha, hb2, _⟩ := app_ok (bytes := 8) (new := [.int .i64 ((b.T[i]).getD n 0)]) (k2 := .exact) (sz := 1) (es := iv ((b.T.take i).map fun l => l.getD n 0)) hop (by simp) (iv_cell1 _) (by simp) (by simp; omega)
      have hg := TL_get i hi
      have htg := take_get (T_lok hok i hi) hlen.2.2 hnm
      have hmt := map_take b.T (fun l => l.getD n 0) i hi
      have hiL : i < b.TL.length := by rw [hTL]; exact hi
      obtain ⟨_, hgE⟩ := List.getElem?_eq_some_iff.1 hg
      rw [hmt]
      generalize (b.T[i]).getD n 0 = z at *
      generalize hq : (b.T[i]).take b.ms.length = q at *
      simp at ha
      simp [g20_macadamref03_Yards_l0, e1, e4, e6, e9, e8, hiL, hgE, htg, hw, ha, hb2]
    · rintro e h ⟨e1, e4, e6, e9, kk, e8, hop⟩
      rw [List.take_length] at e8
      have hnl : ¬ (b.T.length : Int) < b.TL.length := by omega
      have hnl' : ¬ b.T.length < b.TL.length := by omega
      generalize b.T.map (fun l => l.getD n 0) = M at *
      simp [g20_macadamref03_Yards_l0, e4, e6, e9, e8, hnl', onB, onN, c3, results, rdRess, rdRes]
  · generalize lv (askL b (isMv b k)) = V at *
    simp [g20_macadamref03_Yards, g20_macadamref03_Yards_c, c1, c2, results, rdRess, rdRes, hz, ans]
end Av
end

section
/- Contracts of the reference: Heap. -/
set_option linter.unusedSimpArgs false
set_option linter.unusedVariables false
namespace Av
open Go (IntKind BinOp UnOp)
/-- may a slice be appended to, and is its token an old one? -/
def OpnL (h : H) (k : SK) : Prop := Opn h k ∧ ∀ t, k = .opn t → t < h.n
theorem app_ok2 {h : H} {sz bytes : Nat} {es new : List AV} {k k2 : SK} (ho : Opn h k) (hn : new.length ≠ 0) (he : es.all (fun v => decide (v.cells.length = sz)) = true)
    (hnew : new.all (fun v => decide (v.cells.length = sz) && v.flats) = true) (hr : (es.length + new.length) * bytes ≤ 140737488355328 ∧ es.length + new.length ≤ 4611686018427387904) :
    ∃ k' h', oapp h sz bytes (some (.sl es k)) (some (.sl new k2)) = some (.sl (es ++ new.map AV.shutv) k', h') ∧ OpnL h' k' := by
  have h1 : elemsOf sz (.sl new k2) = some new := by simp only [elemsOf, hnew, if_true]
  have h2 : roomFor (es.length + new.length) bytes = true := by simp only [roomFor]; exact decide_eq_true hr
  simp only [oapp, oappS, h1, hn, if_false, he, h2, and_self, if_true]
  cases k with
  | exact => exact ⟨_, _, rfl, by simp [Opn], by rintro t ht; cases ht; simp⟩
  | opn t =>
    simp only [Opn] at ho
    simp only [ho]
    exact ⟨_, _, rfl, by simp [Opn], by rintro t ht; cases ht; simp⟩
  | shut => exact absurd ho id

theorem hadB {b : Bk} (hok : b.ok = true) {l : List Int} {h : Nat} {x : Hp} (hx : b.hs[h]? = some x) {y : Int} (hy : y ∈ had b l h x) : x.a ≤ y ∧ y ≤ x.b := by
  simp only [had, hadTo, List.mem_filter, List.mem_map, List.mem_range] at hy
  obtain ⟨⟨i, h1, rfl⟩, _⟩ := hy
  have := ok_hp hok hx
  omega
theorem had_len5 {b : Bk} (hok : b.ok = true) (l : List Int) {h : Nat} {x : Hp} (hx : b.hs[h]? = some x) : (had b l h x).length ≤ 5 := by
  have := hadTo_len b l h x (x.b - x.a + 1).toNat
  have := ok_hp hok hx
  unfold had; omega
def heapG (b : Bk) (h k : Nat) (x : Hp) (l : List Int) : List Int := (had b l h x).map fun n => n + more b.ms l h k
theorem flat_lenH {b : Bk} (hok : b.ok = true) {h k : Nat} {x : Hp} (hx : b.hs[h]? = some x) (T : List (List Int)) : (T.flatMap (heapG b h k x)).length ≤ 5 * T.length := by
  induction T with
  | nil => simp
  | cons l T ih =>
    have := had_len5 hok l hx
    simp only [List.flatMap_cons, List.length_append, heapG, List.length_map, List.length_cons] at ih ⊢
    omega
theorem l22_0 (b : Bk) (hok : b.ok = true) (l : List Int) (hl : lok l) (at_ k : Nat) (hat : at_ < b.hs.length) (x : Hp) (hx : b.hs[at_]? = some x) (hk : k ≤ b.ms.length) (LL : List AV) (i : Nat) (hLL : LL[i]? = some (.sl (iv (l.take b.ms.length)) .shut))
    (L1 : List Int) (hL1 : L1.length ≤ 1000000) (kk : SK) (e h) (e1 : e 1 = .int .i64 at_) (e2 : e 2 = .int .i64 k) (e3 : e 3 = b.bx) (e8 : e 8 = .sl LL .shut) (e11 : e 11 = .int .i64 i) (e12 : e 12 = .sl (iv (had b l at_ x)) .shut) (e13 : e 13 = .int .i64 0)
    (e10 : e 10 = .sl (iv L1) kk) (hop : OpnL h kk) :
    wpr (den pr (.loop g22_macadamref03_Heap_l0) e h) fun o e' h' => o = .exit 2 ∧ e' 1 = e 1 ∧ e' 2 = e 2 ∧ e' 3 = e 3 ∧ e' 6 = e 6 ∧ e' 8 = e 8 ∧ e' 11 = e 11 ∧ ∃ kk', e' 10 = .sl (iv (L1 ++ heapG b at_ k x l)) kk' ∧ OpnL h' kk' := by
  have hlen := ok_len hok
  have hd5 := had_len5 hok l hx
  have hxo := ok_hp hok hx
  refine loop_up pr (fun j e' h' => e' 1 = e 1 ∧ e' 2 = e 2 ∧ e' 3 = e 3 ∧ e' 6 = e 6 ∧ e' 8 = e 8 ∧ e' 11 = e 11 ∧ e' 12 = e 12 ∧ e' 13 = .int .i64 j ∧ ∃ kk', e' 10 = .sl (iv (L1 ++ ((had b l at_ x).take j).map fun n => n + more b.ms l at_ k)) kk' ∧ OpnL h' kk') (had b l at_ x).length ?_ ?_ 0 e h (by omega) ⟨rfl, rfl, rfl, rfl, rfl, rfl, rfl, e13, kk, by simpa using e10, hop⟩
  · rintro j e' h' hj ⟨q1, q2, q3, q6, q8, q11, q12, q13, kk', q10, hop⟩
    rw [e1] at q1; rw [e2] at q2; rw [e3] at q3; rw [e8] at q8; rw [e11] at q11; rw [e12] at q12
    have hw : IntKind.wrap .i64 ((j : Int) + 1) = j + 1 := wrap_id (by omega) (by omega)
    have hin := hadB hok hx (List.getElem_mem hj)
    have hmt := map_take (had b l at_ x) (fun n => n + more b.ms l at_ k) j hj
    have hbd := more_bd b.ms hl at_ k
    have hiv : (iv (had b l at_ x))[j]? = some (.int .i64 (had b l at_ x)[j]) := by rw [iv_get, List.getElem?_eq_getElem hj]; rfl
    have hjl : (j : Int) < (iv (had b l at_ x)).length := by simp; omega
    generalize hV : (had b l at_ x)[j] = v at *
    let F : List Int := (List.replicate b.hs.length 0).set at_ v
    have hF : F.length = b.hs.length := by simp [F]
    have hFx : F[at_]? = some v := by simp [F, hat]
    have hsp := splice_iv1 (l := List.replicate b.hs.length 0) (k := at_) v (by simpa using hat)
    have hrep := rep_iv b.hs.length
    have hh4 : (b.hs.length : Int) ≤ 1048576 := by omega
    have hat1 : at_ + 1 ≤ b.hs.length := by omega
    have hg1 : ((h'.new (.cells (iv (List.replicate b.hs.length 0)))).put h'.n (.cells (iv F))).get h'.n = some (.cells (iv F)) := by simp
    have c := c78 b hok l hl h'.n at_ k .shut F v hFx (by omega) hk _ hg1 (by simp)
    have hop2 : Opn ((h'.new (.cells (iv (List.replicate b.hs.length 0)))).put h'.n (.cells (iv F))) kk' := by
      obtain ⟨o1, o2⟩ := hop
      cases kk' with
      | exact => trivial
      | shut => exact o1
      | opn t =>
        have := o2 t rfl
        simp only [Opn] at o1 ⊢
        simp [show t ≠ h'.n by omega, o1]
    rw [hF] at c
    obtain ⟨k2, h2, ha, hb2⟩ := app_ok2 (bytes := 8) (new := [.int .i64 (v + more b.ms l at_ k)]) (k2 := .exact) (sz := 1) (es := iv (L1 ++ ((had b l at_ x).take j).map fun n => n + more b.ms l at_ k)) hop2 (by simp) (iv_cell1 _) (by simp) (by simp; omega)
    rw [hmt]
    have hFd : F = (List.replicate b.hs.length 0).set at_ v := rfl
    rw [← hFd] at hsp
    generalize hh1 : (h'.new (.cells (iv (List.replicate b.hs.length 0)))).put h'.n (.cells (iv F)) = h1 at *
    generalize ((had b l at_ x).take j).map (fun n => n + more b.ms l at_ k) = M at *
    generalize iv (had b l at_ x) = V at *
    generalize hq : l.take b.ms.length = q at *
    simp at ha
    simp only [iv_append, iv_cons, iv_nil] at q10
    simp [g22_macadamref03_Heap_l0, q1, q2, q3, q8, q11, q12, q13, q10, hjl, hLL, hiv, hw, hh4, hrep, hsp, hat, hat1, hh1, c, ha, hb2, e1, e2, e3, e8, e11, e12, q6]
  · rintro e' h' ⟨q1, q2, q3, q6, q8, q11, q12, q13, kk', q10, hop⟩
    rw [List.take_length] at q10
    rw [e12] at q12
    generalize hA : had b l at_ x = A at *
    simp only [heapG, hA]
    simp [g22_macadamref03_Heap_l0, q12, q13, q1, q2, q3, q6, q8, q11]
    exact ⟨kk', by simpa using q10, hop⟩

theorem flat_take {α β : Type} (l : List α) (g : α → List β) (k : Nat) (h : k < l.length) : (l.take (k + 1)).flatMap g = (l.take k).flatMap g ++ g l[k] := by
  rw [List.take_add_one, List.getElem?_eq_getElem h, List.flatMap_append]; simp
theorem dc22 (b : Bk) (hb : b.fit) (h k : Int) : icall pr (.fn 22 [] []) [b.v, .int .i64 h, .int .i64 k] = some (spanV (b.heap h k)) := by
  have c1 := c76 b hb h
  have c4 := c63 k 0 b.ms.length
  have c2 := c70 b hb (isHp b h && decide (0 ≤ k ∧ k ≤ b.ms.length))
  refine icall_fn fn22 rfl (by simp) (by simp) rfl ?_
  have hE : b.heap h k = ans (askE b (isHp b h && decide (0 ≤ k ∧ k ≤ b.ms.length))) (tell (heapF b h.toNat k.toNat) b.T) := rfl
  rw [hE]
  generalize hP : decide (0 ≤ k ∧ k ≤ b.ms.length) = P at *
  by_cases hz : askE b (isHp b h && P) = 0
  · obtain ⟨hok, h2, h3⟩ := askE_zero.1 hz
    have hc : b.c = true := h3
    have hlen := ok_len hok
    simp only [Bool.and_eq_true] at h2
    obtain ⟨h4, h5⟩ := h2
    rw [h4] at c1
    rw [h5] at c4
    rw [hz] at c2
    simp only [askL, hz, if_true] at c2
    rw [h4, h5, Bool.and_self] at c2
    rw [← hP] at h5
    simp only [isHp, decide_eq_true_eq] at h4 h5
    obtain ⟨n, rfl⟩ := Int.eq_ofNat_of_zero_le h4.1
    obtain ⟨q, rfl⟩ := Int.eq_ofNat_of_zero_le h5.1
    have hnl : n < b.hs.length := by omega
    have hql : q ≤ b.ms.length := by omega
    have hx : b.hs[n]? = some b.hs[n] := List.getElem?_eq_getElem hnl
    generalize b.hs[n] = x at *
    have hTl := T_len hok
    have hTL := TL_len b
    have hfl := flat_lenH hok (k := q) hx b.T
    obtain ⟨g1, g2, g3, g4, ⟨l, hl, g5⟩, ⟨l', hl', g6⟩⟩ := heap_span hok hc (k := q) hx hql
    have hcont : ∀ l, Trn b l → ∀ n' : Int, b.firstLo l n x ≤ n' → n' ≤ b.firstHi l n x → n' + more b.ms l n q ∈ b.T.flatMap (heapG b n q x) := by
      intro l hl n' h1 h2
      exact List.mem_flatMap.2 ⟨l, (mem_T hok).2 hl, List.mem_map.2 ⟨n', (had_mem b l n x n').2 ⟨h1, h2⟩, rfl⟩⟩
    have c3 := r72 (b.T.flatMap (heapG b n q x)) (tell (heapF b n q) b.T).1 (tell (heapF b n q) b.T).2 (by omega) (fun y hy => by
      obtain ⟨l, hl, hy⟩ := List.mem_flatMap.1 hy
      obtain ⟨n', hn, rfl⟩ := List.mem_map.1 hy
      have h1 := (had_mem b l n x n').1 hn
      have h2 := g4 l ((mem_T hok).1 hl)
      omega) (by
      rw [g5]
      exact hcont l hl _ (Int.le_refl _) (fits_iff.1 hl.fits n x hx)) (by
      rw [g6]
      exact hcont l' hl' _ (fits_iff.1 hl'.fits n x hx) (Int.le_refl _))
    rw [hz]
    simp only [ans, if_true, Int.toNat_natCast]
    generalize tell (heapF b n q) b.T = R at *
    simp [g22_macadamref03_Heap, g22_macadamref03_Heap_c, c1, c2, c4]
    refine wpr_seq (wpr_oblock (loop_up pr (fun i e h => e 1 = .int .i64 n ∧ e 2 = .int .i64 q ∧ e 3 = b.bx ∧ e 6 = .lbox 0 [.int .i64 0, .int .i64 0] ∧ e 8 = .sl (lv b.TL) .shut ∧ e 11 = .int .i64 i ∧ ∃ kk, e 10 = .sl (iv ((b.T.take i).flatMap (heapG b n q x))) kk ∧ OpnL h kk) b.T.length ?_ ?_ 0 _ _ (by omega) ⟨rfl, rfl, rfl, rfl, rfl, rfl, .exact, rfl, trivial, by simp⟩))
    · rintro i e h hi ⟨e1, e2, e3, e6, e8, e11, kk, e10, hop⟩
      have hw : IntKind.wrap .i64 ((i : Int) + 1) = i + 1 := wrap_id (by omega) (by omega)
      have hg := TL_get i hi
      have hlk := T_lok hok i hi
      have c5 := c77 b hok b.T[i] hlk n hnl x hx
      have hft := flat_take b.T (heapG b n q x) i hi
      have hfl2 := flat_lenH hok (k := q) hx (b.T.take i)
      have hiL : i < b.TL.length := by rw [hTL]; exact hi
      have hLL : (lv b.TL)[i]? = some (.sl (iv ((b.T[i]).take b.ms.length)) .shut) := by rw [lv_get, hg]; rfl
      obtain ⟨_, hgE⟩ := List.getElem?_eq_some_iff.1 hLL
      have l0 := l22_0 b hok b.T[i] hlk n q hnl x hx hql (lv b.TL) i hLL ((b.T.take i).flatMap (heapG b n q x)) (by rw [List.length_take] at hfl2; omega) kk
      rw [hft]
      have hiLi : (i : Int) < b.TL.length := by omega
      have hlvl := lv_len b.TL
      generalize hq : (b.T[i]).take b.ms.length = q2 at *
      generalize lv b.TL = V at *
      simp [g22_macadamref03_Heap_l1, e1, e2, e3, e8, e11, e10, hlvl, hiL, hgE, c5]
      refine wpr_seq (wpr_oblock (wpr_oblock (wpr_mono (l0 _ _ (by simp [e1]) (by simp [e2]) (by simp [e3]) (by simp [e8]) (by simp [e11]) rfl rfl (by simp [e10]) hop) ?_)))
      rintro o e' h' ⟨rfl, r1, r2, r3, r6, r8, r11, kk', r10, hop'⟩
      simp [e1] at r1
      simp [e2] at r2
      simp [e3] at r3
      simp [e6] at r6
      simp [e8] at r8
      simp [e11] at r11
      simp [onB, onN, r1, r2, r3, r6, r8, r11, hw]
      exact ⟨kk', by simpa using r10, hop'⟩
    · rintro e h ⟨e1, e2, e3, e6, e8, e11, kk, e10, hop⟩
      rw [List.take_length] at e10
      have hnl' : ¬ b.T.length < b.TL.length := by omega
      have hlvl := lv_len b.TL
      generalize b.T.flatMap (heapG b n q x) = M at *
      generalize lv b.TL = V at *
      simp [g22_macadamref03_Heap_l1, e6, e8, e11, e10, hlvl, hnl', onB, onN, c3, results, rdRess, rdRes]
  · generalize lv (askL b (isHp b h && P)) = V at *
    cases hh : isHp b h with
    | true =>
      rw [hh] at c1 c2 hz
      simp only [Bool.true_and] at c2 hz
      simp [g22_macadamref03_Heap, g22_macadamref03_Heap_c, c1, c2, c4, results, rdRess, rdRes, hz, ans]
    | false =>
      rw [hh] at c1 c2 hz
      simp only [Bool.false_and] at c2 hz
      simp [g22_macadamref03_Heap, g22_macadamref03_Heap_c, c1, c2, c4, results, rdRess, rdRes, hz, ans]
end Av
end

section
/- Contracts of the reference: Laid, Owed. -/
set_option linter.unusedSimpArgs false
set_option linter.unusedVariables false
namespace Av
open Go (IntKind BinOp UnOp)
theorem l25_0 (b : Bk) (hok : b.ok = true) (l : List Int) (hl : lok l) (LL : List AV) (i : Nat) (hLL : LL[i]? = some (.sl (iv (l.take b.ms.length)) .shut)) (e h)
    (e1 : e 1 = b.bx) (e4 : e 4 = .sl LL .shut) (e7 : e 7 = .int .i64 i) (e8 : e 8 = .int .i64 0) (e9 : e 9 = .int .i64 0) :
    wpr (den pr (.loop g25_macadamref03_Laid_l0) e h) fun o e' h' => o = .exit 2 ∧ h' = h ∧ e' 1 = e 1 ∧ e' 2 = e 2 ∧ e' 4 = e 4 ∧ e' 6 = e 6 ∧ e' 7 = e 7 ∧ e' 8 = .int .i64 (allTo b.ms (fun m => decide (m.t = -1)) l b.ms.length) := by
  have hlen := ok_len hok
  refine loop_up pr (fun k e' h' => h' = h ∧ e' 1 = e 1 ∧ e' 2 = e 2 ∧ e' 4 = e 4 ∧ e' 6 = e 6 ∧ e' 7 = e 7 ∧ e' 9 = .int .i64 k ∧ e' 8 = .int .i64 (allTo b.ms (fun m => decide (m.t = -1)) l k)) b.ms.length ?_ ?_ 0 e h (by omega) ⟨rfl, rfl, rfl, rfl, rfl, rfl, e9, e8⟩
  · rintro k e' h' hk ⟨rfl, q1, q2, q4, q6, q7, q9, q8⟩
    rw [e1] at q1; rw [e4] at q4; rw [e7] at q7
    have hw : IntKind.wrap .i64 ((k : Int) + 1) = k + 1 := wrap_id (by omega) (by omega)
    have hm : b.ms[k]? = some b.ms[k] := List.getElem?_eq_getElem hk
    have hbd := allTo_bd b.ms (fun m => decide (m.t = -1)) hl k
    have hlk := lok_get hl k
    have htg := take_get hl hlen.2.2 hk
    have hs : allTo b.ms (fun m => decide (m.t = -1)) l (k + 1) = allTo b.ms (fun m => decide (m.t = -1)) l k + (if b.ms[k].t = -1 then l.getD k 0 else 0) := by simp only [allTo, hm, decide_eq_true_eq]
    have hiv : (iv (l.take b.ms.length))[k]? = some (.int .i64 (l.getD k 0)) := by rw [iv_get, htg]; rfl
    rw [hs]
    generalize iv (l.take b.ms.length) = V at *
    generalize hmm : b.ms[k] = m at *
    generalize l.getD k 0 = n at *
    generalize allTo b.ms (fun m => decide (m.t = -1)) l k = S at *
    have hw2 : IntKind.wrap .i64 (S + n) = S + n := wrap_id (by omega) (by omega)
    by_cases hq : m.t = -1
    · simp [g25_macadamref03_Laid_l0, q1, q2, q4, q6, q7, q9, q8, hk, hmm, hq, hLL, hiv, hw, hw2, e1, e4, e7]
    · simp [g25_macadamref03_Laid_l0, q1, q2, q4, q6, q7, q9, q8, hk, hmm, hq, hw, e1, e4, e7]
  · rintro e' h' ⟨rfl, q1, q2, q4, q6, q7, q9, q8⟩
    rw [e1] at q1
    simp [g25_macadamref03_Laid_l0, q1, q2, q4, q6, q7, q9, q8, e1]
theorem c25 (b : Bk) (hb : b.fit) : icall pr (.fn 25 [] []) [b.v] = some (spanV b.laid) := by
  have c2 := c70 b hb true
  refine icall_fn fn25 rfl (by simp) (by simp) rfl ?_
  have hE : b.laid = ans (askE b true) (tell (allF b fun m => decide (m.t = -1)) b.T) := rfl
  rw [hE]
  by_cases hz : askE b true = 0
  · obtain ⟨hok, h2, h3⟩ := askE_zero.1 hz
    have hc : b.c = true := h3
    have hlen := ok_len hok
    rw [hz] at c2
    simp only [askL, hz, if_true] at c2
    have c3 := r72T hok hc (fun l => allTo b.ms (fun m => decide (m.t = -1)) l b.ms.length)
    have hyf : (fun l : List Int => (allTo b.ms (fun m => decide (m.t = -1)) l b.ms.length, allTo b.ms (fun m => decide (m.t = -1)) l b.ms.length)) = allF b fun m => decide (m.t = -1) := rfl
    rw [hyf] at c3
    have hTl := T_len hok
    have hTL := TL_len b
    rw [hz]
    simp only [ans, if_true]
    generalize tell (allF b fun m => decide (m.t = -1)) b.T = R at *
    simp [g25_macadamref03_Laid, g25_macadamref03_Laid_c, c2]
    refine wpr_seq (wpr_oblock (loop_up pr (fun i e h => e 1 = b.bx ∧ e 2 = .lbox 0 [.int .i64 0, .int .i64 0] ∧ e 4 = .sl (lv b.TL) .shut ∧ e 7 = .int .i64 i ∧ ∃ kk, e 6 = .sl (iv ((b.T.take i).map fun l => allTo b.ms (fun m => decide (m.t = -1)) l b.ms.length)) kk ∧ Opn h kk) b.T.length ?_ ?_ 0 _ _ (by omega) ⟨rfl, rfl, rfl, rfl, .exact, rfl, trivial⟩))
    · rintro i e h hi ⟨e1, e2, e4, e7, kk, e6, hop⟩
      have hw : IntKind.wrap .i64 ((i : Int) + 1) = i + 1 := wrap_id (by omega) (by omega)
      obtain ⟨k2, h2, ha, hb2, _⟩ := app_ok (bytes := 8) (new := [.int .i64 (allTo b.ms (fun m => decide (m.t = -1)) b.T[i] b.ms.length)]) (k2 := .exact) (sz := 1) (es := iv ((b.T.take i).map fun l => allTo b.ms (fun m => decide (m.t = -1)) l b.ms.length)) hop (by simp) (iv_cell1 _) (by simp) (by simp; omega)
      have hg := TL_get i hi
      have hLL : (lv b.TL)[i]? = some (.sl (iv ((b.T[i]).take b.ms.length)) .shut) := by rw [lv_get, hg]; rfl
      have hmt := map_take b.T (fun l => allTo b.ms (fun m => decide (m.t = -1)) l b.ms.length) i hi
      have hiL : i < b.TL.length := by rw [hTL]; exact hi
      have hlvl := lv_len b.TL
      have l0 := l25_0 b hok b.T[i] (T_lok hok i hi) (lv b.TL) i hLL
      rw [hmt]
      generalize allTo b.ms (fun m => decide (m.t = -1)) b.T[i] b.ms.length = z at *
      generalize lv b.TL = V at *
      simp at ha
      simp [g25_macadamref03_Laid_l1, e1, e2, e4, e7, e6, hlvl, hiL]
      refine wpr_seq (wpr_oblock (wpr_seq (wpr_oblock (wpr_mono (l0 _ _ (by simp [e1]) (by simp [e4]) (by simp [e7]) rfl rfl) ?_))))
      rintro o e' h' ⟨rfl, rfl, r1, r2, r4, r6, r7, r8⟩
      simp [e1] at r1
      simp [e2] at r2
      simp [e4] at r4
      simp [e6] at r6
      simp [e7] at r7
      simp [onB, onN, r1, r2, r4, r6, r7, r8, hw, ha, hb2]
    · rintro e h ⟨e1, e2, e4, e7, kk, e6, hop⟩
      rw [List.take_length] at e6
      have hnl' : ¬ b.T.length < b.TL.length := by omega
      have hlvl := lv_len b.TL
      generalize b.T.map (fun l => allTo b.ms (fun m => decide (m.t = -1)) l b.ms.length) = M at *
      generalize lv b.TL = V at *
      simp [g25_macadamref03_Laid_l1, e2, e4, e7, e6, hlvl, hnl', onB, onN, c3, results, rdRess, rdRes]
  · generalize lv (askL b true) = V at *
    simp [g25_macadamref03_Laid, g25_macadamref03_Laid_c, c2, results, rdRess, rdRes, hz, ans]
end Av
end

section
/- Contracts of the reference: Owed. -/
set_option linter.unusedSimpArgs false
set_option linter.unusedVariables false
namespace Av
open Go (IntKind BinOp UnOp)
theorem l27_0 (b : Bk) (hok : b.ok = true) (c : Int) (l : List Int) (hl : lok l) (LL : List AV) (i : Nat) (hLL : LL[i]? = some (.sl (iv (l.take b.ms.length)) .shut)) (e h)
    (e1 : e 1 = .int .i64 c) (e3 : e 3 = b.bx) (e8 : e 8 = .sl LL .shut) (e11 : e 11 = .int .i64 i) (e12 : e 12 = .int .i64 0) (e13 : e 13 = .int .i64 0) :
    wpr (den pr (.loop g27_macadamref03_Owed_l0) e h) fun o e' h' => o = .exit 2 ∧ h' = h ∧ e' 1 = e 1 ∧ e' 2 = e 2 ∧ e' 3 = e 3 ∧ e' 6 = e 6 ∧ e' 8 = e 8 ∧ e' 10 = e 10 ∧ e' 11 = e 11 ∧ e' 12 = .int .i64 (allTo b.ms (fun m => decide (m.c = c)) l b.ms.length) := by
  have hlen := ok_len hok
  refine loop_up pr (fun k e' h' => h' = h ∧ e' 1 = e 1 ∧ e' 2 = e 2 ∧ e' 3 = e 3 ∧ e' 6 = e 6 ∧ e' 8 = e 8 ∧ e' 10 = e 10 ∧ e' 11 = e 11 ∧ e' 13 = .int .i64 k ∧ e' 12 = .int .i64 (allTo b.ms (fun m => decide (m.c = c)) l k)) b.ms.length ?_ ?_ 0 e h (by omega) ⟨rfl, rfl, rfl, rfl, rfl, rfl, rfl, rfl, e13, e12⟩
  · rintro k e' h' hk ⟨rfl, q1, q2, q3, q6, q8, q10, q11, q13, q12⟩
    rw [e1] at q1; rw [e3] at q3; rw [e8] at q8; rw [e11] at q11
    have hw : IntKind.wrap .i64 ((k : Int) + 1) = k + 1 := wrap_id (by omega) (by omega)
    have hm : b.ms[k]? = some b.ms[k] := List.getElem?_eq_getElem hk
    have hbd := allTo_bd b.ms (fun m => decide (m.c = c)) hl k
    have hlk := lok_get hl k
    have htg := take_get hl hlen.2.2 hk
    have hs : allTo b.ms (fun m => decide (m.c = c)) l (k + 1) = allTo b.ms (fun m => decide (m.c = c)) l k + (if b.ms[k].c = c then l.getD k 0 else 0) := by simp only [allTo, hm, decide_eq_true_eq]
    have hiv : (iv (l.take b.ms.length))[k]? = some (.int .i64 (l.getD k 0)) := by rw [iv_get, htg]; rfl
    rw [hs]
    generalize iv (l.take b.ms.length) = V at *
    generalize hmm : b.ms[k] = m at *
    generalize l.getD k 0 = n at *
    generalize allTo b.ms (fun m => decide (m.c = c)) l k = S at *
    have hw2 : IntKind.wrap .i64 (S + n) = S + n := wrap_id (by omega) (by omega)
    by_cases hq : m.c = c
    · simp [g27_macadamref03_Owed_l0, q1, q2, q3, q6, q8, q10, q11, q13, q12, hk, hmm, hq, hLL, hiv, hw, hw2, e1, e3, e8, e11]
    · simp [g27_macadamref03_Owed_l0, q1, q2, q3, q6, q8, q10, q11, q13, q12, hk, hmm, hq, hw, e1, e3, e8, e11]
  · rintro e' h' ⟨rfl, q1, q2, q3, q6, q8, q10, q11, q13, q12⟩
    rw [e3] at q3
    simp [g27_macadamref03_Owed_l0, q1, q2, q3, q6, q8, q10, q11, q13, q12, e3]
theorem r72M {b : Bk} (hok : b.ok = true) (hc : b.c = true) (g : List Int → Int) (r : Int) (hr : 0 ≤ r) :
    icall pr (.fn 72 [] []) [.sl (iv (b.T.map fun l => r * g l)) .shut] = some (.agg [.int .i64 ((tell (fun l => (g l, g l)) b.T).1 * r), .int .i64 ((tell (fun l => (g l, g l)) b.T).2 * r)]) := by
  obtain ⟨h1, ⟨l, hl, h2⟩, ⟨l', hl', h3⟩⟩ := tell_T hok hc (fun l => (g l, g l))
  have hlen := T_len hok
  refine r72 _ _ _ (by simp; omega) (fun y hy => ?_) ?_ ?_
  · obtain ⟨q, hq, rfl⟩ := List.mem_map.1 hy
    have := h1 q ((mem_T hok).1 hq)
    rw [Int.mul_comm r]
    exact ⟨Int.mul_le_mul_of_nonneg_right this.1 hr, Int.mul_le_mul_of_nonneg_right this.2 hr⟩
  · rw [h2, Int.mul_comm]; exact List.mem_map.2 ⟨l, (mem_T hok).2 hl, rfl⟩
  · rw [h3, Int.mul_comm]; exact List.mem_map.2 ⟨l', (mem_T hok).2 hl', rfl⟩
theorem c27 (b : Bk) (hb : b.fit) (c r : Int) : icall pr (.fn 27 [] []) [b.v, .int .i64 c, .int .i64 r] = some (spanV (b.owed c r)) := by
  have c1 := c65 c
  have c4 := c63 r 0 99
  have c2 := c70 b hb (decide (0 ≤ c ∧ c ≤ 3) && decide (0 ≤ r ∧ r ≤ 99))
  refine icall_fn fn27 rfl (by simp) (by simp) rfl ?_
  have hE : b.owed c r = ans (askE b (decide (0 ≤ c ∧ c ≤ 3) && decide (0 ≤ r ∧ r ≤ 99))) ((tell (allF b fun m => decide (m.c = c)) b.T).1 * r, (tell (allF b fun m => decide (m.c = c)) b.T).2 * r) := rfl
  rw [hE]
  generalize hP : decide (0 ≤ c ∧ c ≤ 3) = P at *
  generalize hQ : decide (0 ≤ r ∧ r ≤ 99) = Q at *
  by_cases hz : askE b (P && Q) = 0
  · obtain ⟨hok, h2, h3⟩ := askE_zero.1 hz
    have hc : b.c = true := h3
    have hlen := ok_len hok
    simp only [Bool.and_eq_true] at h2
    obtain ⟨h4, h5⟩ := h2
    rw [hz] at c2
    simp only [askL, hz, if_true] at c2
    rw [h4, h5, Bool.and_self] at c2
    rw [h4] at c1
    rw [h5] at c4
    rw [← hQ, decide_eq_true_eq] at h5
    have c3 := r72M hok hc (fun l => allTo b.ms (fun m => decide (m.c = c)) l b.ms.length) r h5.1
    have hyf : (fun l : List Int => (allTo b.ms (fun m => decide (m.c = c)) l b.ms.length, allTo b.ms (fun m => decide (m.c = c)) l b.ms.length)) = allF b fun m => decide (m.c = c) := rfl
    rw [hyf] at c3
    have hTl := T_len hok
    have hTL := TL_len b
    rw [hz]
    simp only [ans, if_true]
    generalize (tell (allF b fun m => decide (m.c = c)) b.T).1 * r = R1 at *
    generalize (tell (allF b fun m => decide (m.c = c)) b.T).2 * r = R2 at *
    simp [g27_macadamref03_Owed, g27_macadamref03_Owed_c, c1, c2, c4]
    refine wpr_seq (wpr_oblock (loop_up pr (fun i e h => e 1 = .int .i64 c ∧ e 2 = .int .i64 r ∧ e 3 = b.bx ∧ e 6 = .lbox 0 [.int .i64 0, .int .i64 0] ∧ e 8 = .sl (lv b.TL) .shut ∧ e 11 = .int .i64 i ∧ ∃ kk, e 10 = .sl (iv ((b.T.take i).map fun l => r * allTo b.ms (fun m => decide (m.c = c)) l b.ms.length)) kk ∧ Opn h kk) b.T.length ?_ ?_ 0 _ _ (by omega) ⟨rfl, rfl, rfl, rfl, rfl, rfl, .exact, rfl, trivial⟩))
    · rintro i e h hi ⟨e1, e2, e3, e6, e8, e11, kk, e10, hop⟩
      have hw : IntKind.wrap .i64 ((i : Int) + 1) = i + 1 := wrap_id (by omega) (by omega)
      have hbd := allTo_bd b.ms (fun m => decide (m.c = c)) (T_lok hok i hi) b.ms.length
      have hmb := mul_bd hbd.1 (by omega) h5.1 h5.2
      rw [Int.mul_comm] at hmb
      have hwm : IntKind.wrap .i64 (r * allTo b.ms (fun m => decide (m.c = c)) b.T[i] b.ms.length) = r * allTo b.ms (fun m => decide (m.c = c)) b.T[i] b.ms.length := wrap_id (by omega) (by omega)
      obtain ⟨k2, h2, ha, hb2, _⟩ := app_ok (bytes := 8) (new := [.int .i64 (r * allTo b.ms (fun m => decide (m.c = c)) b.T[i] b.ms.length)]) (k2 := .exact) (sz := 1) (es := iv ((b.T.take i).map fun l => r * allTo b.ms (fun m => decide (m.c = c)) l b.ms.length)) hop (by simp) (iv_cell1 _) (by simp) (by simp; omega)
      have hg := TL_get i hi
      have hLL : (lv b.TL)[i]? = some (.sl (iv ((b.T[i]).take b.ms.length)) .shut) := by rw [lv_get, hg]; rfl
      have hmt := map_take b.T (fun l => r * allTo b.ms (fun m => decide (m.c = c)) l b.ms.length) i hi
      have hiL : i < b.TL.length := by rw [hTL]; exact hi
      have hlvl := lv_len b.TL
      have l0 := l27_0 b hok c b.T[i] (T_lok hok i hi) (lv b.TL) i hLL
      rw [hmt]
      generalize allTo b.ms (fun m => decide (m.c = c)) b.T[i] b.ms.length = z at *
      generalize lv b.TL = V at *
      simp at ha
      simp [g27_macadamref03_Owed_l1, e1, e2, e3, e6, e8, e11, e10, hlvl, hiL]
      refine wpr_seq (wpr_oblock (wpr_seq (wpr_oblock (wpr_mono (l0 _ _ (by simp [e1]) (by simp [e3]) (by simp [e8]) (by simp [e11]) rfl rfl) ?_))))
      rintro o e' h' ⟨rfl, rfl, r1, r2, r3, r6, r8, r10, r11, r12⟩
      simp [e1] at r1
      simp [e2] at r2
      simp [e3] at r3
      simp [e6] at r6
      simp [e8] at r8
      simp [e10] at r10
      simp [e11] at r11
      simp [onB, onN, r1, r2, r3, r6, r8, r10, r11, r12, hw, hwm, ha, hb2]
    · rintro e h ⟨e1, e2, e3, e6, e8, e11, kk, e10, hop⟩
      rw [List.take_length] at e10
      have hnl' : ¬ b.T.length < b.TL.length := by omega
      have hlvl := lv_len b.TL
      generalize b.T.map (fun l => r * allTo b.ms (fun m => decide (m.c = c)) l b.ms.length) = M at *
      generalize lv b.TL = V at *
      simp [g27_macadamref03_Owed_l1, e6, e8, e11, e10, hlvl, hnl', onB, onN, c3, results, rdRess, rdRes]
  · generalize lv (askL b (P && Q)) = V at *
    cases P with
    | true =>
      simp only [Bool.true_and] at c2 hz
      simp [g27_macadamref03_Owed, g27_macadamref03_Owed_c, c1, c2, c4, results, rdRess, rdRes, hz, ans]
    | false =>
      simp only [Bool.false_and] at c2 hz
      simp [g27_macadamref03_Owed, g27_macadamref03_Owed_c, c1, c2, c4, results, rdRess, rdRes, hz, ans]
end Av
end

section
/- Contracts of the reference: Fits, Liars. -/
set_option linter.unusedSimpArgs false
set_option linter.unusedVariables false
namespace Av
open Go (IntKind BinOp UnOp)
theorem c32 (b : Bk) (hb : b.fit) (k n : Int) : icall pr (.fn 32 [] []) [b.v, .int .i64 k, .int .i64 n] = some (.tup [.bool (b.fitsQ k n).1, .int .i64 (b.fitsQ k n).2]) := by
  have c1 := c71 b hb k
  have c4 := c63 n 0 6
  have c2 := c70 b hb (isMv b k && decide (0 ≤ n ∧ n ≤ 6))
  refine icall_fn fn32 rfl (by simp) (by simp) rfl ?_
  have hE : b.fitsQ k n = if askE b (isMv b k && decide (0 ≤ n ∧ n ≤ 6)) = 0 then (b.T.any (fun l => decide (l.getD k.toNat 0 = n)), 0) else (false, askE b (isMv b k && decide (0 ≤ n ∧ n ≤ 6))) := rfl
  rw [hE]
  generalize hQ : decide (0 ≤ n ∧ n ≤ 6) = Q at *
  by_cases hz : askE b (isMv b k && Q) = 0
  · obtain ⟨hok, h2, h3⟩ := askE_zero.1 hz
    have hlen := ok_len hok
    simp only [Bool.and_eq_true] at h2
    obtain ⟨h4, h5⟩ := h2
    rw [hz] at c2
    simp only [askL, hz, if_true] at c2
    rw [h4, h5, Bool.and_self] at c2
    rw [h4] at c1
    rw [h5] at c4
    simp only [isMv, decide_eq_true_eq] at h4
    obtain ⟨q, rfl⟩ := Int.eq_ofNat_of_zero_le h4.1
    have hqm : q < b.ms.length := by omega
    have hTL := TL_len b
    have hTl := T_len hok
    rw [if_pos hz]
    generalize hA0 : b.T.any (fun l => decide (l.getD (q : Int).toNat 0 = n)) = A
    simp only [Int.toNat_natCast] at hA0
    simp [g32_macadamref03_Fits, g32_macadamref03_Fits_c, c1, c2, c4]
    refine wpr_seq (wpr_oblock (loop_up pr (fun i e h => e 1 = .int .i64 q ∧ e 2 = .int .i64 n ∧ e 8 = .sl (lv b.TL) .shut ∧ e 10 = .int .i64 i ∧ (b.T.take i).any (fun l => decide (l.getD q 0 = n)) = false) b.T.length ?_ ?_ 0 _ _ (by omega) ⟨rfl, rfl, rfl, rfl, rfl⟩))
    · rintro i e h hi ⟨e1, e2, e8, e10, hno⟩
      have hw : IntKind.wrap .i64 ((i : Int) + 1) = i + 1 := wrap_id (by omega) (by omega)
      have hg := TL_get i hi
      have htg := take_get (T_lok hok i hi) hlen.2.2 hqm
      have hiL : i < b.TL.length := by rw [hTL]; exact hi
      have hLL : (lv b.TL)[i]? = some (.sl (iv ((b.T[i]).take b.ms.length)) .shut) := by rw [lv_get, hg]; rfl
      obtain ⟨_, hgE⟩ := List.getElem?_eq_some_iff.1 hLL
      have hiv : (iv ((b.T[i]).take b.ms.length))[q]? = some (.int .i64 ((b.T[i]).getD q 0)) := by rw [iv_get, htg]; rfl
      have hta : (b.T.take (i + 1)).any (fun l => decide (l.getD q 0 = n)) = ((b.T.take i).any (fun l => decide (l.getD q 0 = n)) || decide ((b.T[i]).getD q 0 = n)) := by
        rw [List.take_add_one, List.getElem?_eq_getElem hi, List.any_append]; simp
      have hmem : b.T[i] ∈ b.T := List.getElem_mem hi
      have hAi : (b.T[i]).getD q 0 = n → A = true := fun h => by
        rw [← hA0, List.any_eq_true]; exact ⟨_, hmem, by simpa using h⟩
      have hlvl := lv_len b.TL
      rw [hta, hno]
      generalize iv ((b.T[i]).take b.ms.length) = U at *
      generalize (b.T[i]).getD q 0 = z at *
      generalize lv b.TL = V at *
      by_cases hz2 : z = n
      · have hA1 := hAi hz2
        subst hA1
        simp [g32_macadamref03_Fits_l0, e1, e2, e8, e10, hlvl, hiL, hgE, hiv, hz2, hw, onB, onN, results, rdRess, rdRes]
      · simp [g32_macadamref03_Fits_l0, e1, e2, e8, e10, hlvl, hiL, hgE, hiv, hz2, hw]
    · rintro e h ⟨e1, e2, e8, e10, hno⟩
      rw [List.take_length, hA0] at hno
      subst hno
      have hnl' : ¬ b.T.length < b.TL.length := by omega
      have hlvl := lv_len b.TL
      generalize lv b.TL = V at *
      simp [g32_macadamref03_Fits_l0, e8, e10, hlvl, hnl', onB, onN, results, rdRess, rdRes]
  · rw [if_neg hz]
    generalize lv (askL b (isMv b k && Q)) = V at *
    cases hh : isMv b k with
    | true =>
      rw [hh] at c1 c2 hz
      simp only [Bool.true_and] at c2 hz
      simp [g32_macadamref03_Fits, g32_macadamref03_Fits_c, c1, c2, c4, results, rdRess, rdRes, hz]
    | false =>
      rw [hh] at c1 c2 hz
      simp only [Bool.false_and] at c2 hz
      simp [g32_macadamref03_Fits, g32_macadamref03_Fits_c, c1, c2, c4, results, rdRess, rdRes, hz]

theorem lied_succ {b : Bk} (hok : b.ok = true) (l : List Int) (c k : Nat) (hk : k < b.ms.length) : (liedTo b.ms l (k + 1)).testBit c = ((liedTo b.ms l k).testBit c || (decide (b.ms[k].c = (c : Int)) && decide (l.getD k 0 < b.ms[k].n))) := by
  have hm : b.ms[k]? = some b.ms[k] := List.getElem?_eq_getElem hk
  have hmo := ok_mv hok hm
  simp only [liedTo, hm, Nat.testBit_or]
  congr 1
  split
  · rename_i hq
    rw [Nat.testBit_two_pow, decide_eq_true hq, Bool.and_true]
    exact decide_eq_decide.2 (by omega)
  · rename_i hq
    rw [decide_eq_false hq, Bool.and_false, Nat.zero_testBit]
theorem l29_0 (b : Bk) (hok : b.ok = true) (c : Nat) (l : List Int) (hl : lok l) (LL : List AV) (i : Nat) (hLL : LL[i]? = some (.sl (iv (l.take b.ms.length)) .shut)) (e h)
    (e1 : e 1 = b.bx) (e4 : e 4 = .sl LL .shut) (e7 : e 7 = .int .i64 c) (e9 : e 9 = .int .i64 i) (e10 : e 10 = .bool false) (e11 : e 11 = .int .i64 0) :
    wpr (den pr (.loop g29_macadamref03_Liars_l0) e h) fun o e' h' => o = .exit 4 ∧ h' = h ∧ e' 1 = e 1 ∧ e' 4 = e 4 ∧ e' 6 = e 6 ∧ e' 7 = e 7 ∧ e' 8 = e 8 ∧ e' 9 = e 9 ∧ e' 10 = .bool ((liedTo b.ms l b.ms.length).testBit c) := by
  have hlen := ok_len hok
  refine loop_up pr (fun k e' h' => h' = h ∧ e' 1 = e 1 ∧ e' 4 = e 4 ∧ e' 6 = e 6 ∧ e' 7 = e 7 ∧ e' 8 = e 8 ∧ e' 9 = e 9 ∧ e' 11 = .int .i64 k ∧ e' 10 = .bool ((liedTo b.ms l k).testBit c)) b.ms.length ?_ ?_ 0 e h (by omega) ⟨rfl, rfl, rfl, rfl, rfl, rfl, rfl, e11, by rw [e10]; simp [liedTo]⟩
  · rintro k e' h' hk ⟨rfl, q1, q4, q6, q7, q8, q9, q11, q10⟩
    rw [e1] at q1; rw [e4] at q4; rw [e7] at q7; rw [e9] at q9
    have hw : IntKind.wrap .i64 ((k : Int) + 1) = k + 1 := wrap_id (by omega) (by omega)
    have htg := take_get hl hlen.2.2 hk
    have hs := lied_succ hok l c k hk
    have hiv : (iv (l.take b.ms.length))[k]? = some (.int .i64 (l.getD k 0)) := by rw [iv_get, htg]; rfl
    rw [hs]
    generalize iv (l.take b.ms.length) = V at *
    generalize hmm : b.ms[k] = m at *
    generalize l.getD k 0 = n at *
    cases hA : (liedTo b.ms l k).testBit c with
    | true =>
      rw [hA] at q10
      simp [g29_macadamref03_Liars_l0, q1, q4, q6, q7, q8, q9, q11, q10, hk, hw, e1, e4, e7, e9]
    | false =>
      rw [hA] at q10
      by_cases hq : m.c = (c : Int)
      · simp [g29_macadamref03_Liars_l0, q1, q4, q6, q7, q8, q9, q11, q10, hk, hmm, hq, hLL, hiv, hw, e1, e4, e7, e9]
      · simp [g29_macadamref03_Liars_l0, q1, q4, q6, q7, q8, q9, q11, q10, hk, hmm, hq, hw, e1, e4, e7, e9]
  · rintro e' h' ⟨rfl, q1, q4, q6, q7, q8, q9, q11, q10⟩
    rw [e1] at q1
    simp [g29_macadamref03_Liars_l0, q1, q4, q6, q7, q8, q9, q11, q10, e1]
theorem l29_1 (b : Bk) (hok : b.ok = true) (c : Nat) (e h)
    (e1 : e 1 = b.bx) (e4 : e 4 = .sl (lv b.TL) .shut) (e7 : e 7 = .int .i64 c) (e8 : e 8 = .bool true) (e9 : e 9 = .int .i64 0) :
    wpr (den pr (.loop g29_macadamref03_Liars_l1) e h) fun o e' h' => o = .exit 2 ∧ h' = h ∧ e' 1 = e 1 ∧ e' 4 = e 4 ∧ e' 6 = e 6 ∧ e' 7 = e 7 ∧ e' 8 = .bool (b.T.all fun l => (liedTo b.ms l b.ms.length).testBit c) := by
  have hTl := T_len hok
  have hTL := TL_len b
  have hlvl := lv_len b.TL
  refine loop_up pr (fun i e' h' => h' = h ∧ e' 1 = e 1 ∧ e' 4 = e 4 ∧ e' 6 = e 6 ∧ e' 7 = e 7 ∧ e' 9 = .int .i64 i ∧ e' 8 = .bool ((b.T.take i).all fun l => (liedTo b.ms l b.ms.length).testBit c)) b.T.length ?_ ?_ 0 e h (by omega) ⟨rfl, rfl, rfl, rfl, rfl, e9, by rw [e8]; simp⟩
  · rintro i e' h' hi ⟨rfl, q1, q4, q6, q7, q9, q8⟩
    have hw : IntKind.wrap .i64 ((i : Int) + 1) = i + 1 := wrap_id (by omega) (by omega)
    have hg := TL_get i hi
    have hLL : (lv b.TL)[i]? = some (.sl (iv ((b.T[i]).take b.ms.length)) .shut) := by rw [lv_get, hg]; rfl
    have hiL : i < b.TL.length := by rw [hTL]; exact hi
    have hat := all_take b.T (fun l => (liedTo b.ms l b.ms.length).testBit c) i hi
    have l0 := l29_0 b hok c b.T[i] (T_lok hok i hi) (lv b.TL) i hLL
    rw [hat]
    rw [e4] at q4
    generalize (liedTo b.ms b.T[i] b.ms.length).testBit c = z at *
    generalize ((b.T.take i).all fun l => (liedTo b.ms l b.ms.length).testBit c) = Z at *
    generalize lv b.TL = V at *
    simp [g29_macadamref03_Liars_l1, q4, q9, hlvl, hiL]
    refine wpr_seq (wpr_oblock (wpr_seq (wpr_oblock (wpr_mono (l0 _ _ (by simp [q1, e1]) (by simp [q4]) (by simp [q7, e7]) (by simp [q9]) rfl rfl) ?_))))
    rintro o e2 h2 ⟨rfl, rfl, r1, r4, r6, r7, r8, r9, r10⟩
    simp [q1] at r1
    simp [q4] at r4
    simp [q6] at r6
    simp [q7] at r7
    simp [q8] at r8
    simp [q9] at r9
    cases Z with
    | true => simp [onB, onN, r1, r4, r6, r7, r8, r9, r10, hw, e4]
    | false => simp [onB, onN, r1, r4, r6, r7, r8, r9, r10, hw, e4]
  · rintro e' h' ⟨rfl, q1, q4, q6, q7, q9, q8⟩
    rw [List.take_length] at q8
    have hnl' : ¬ b.T.length < b.TL.length := by omega
    rw [e4] at q4
    generalize lv b.TL = V at *
    simp [g29_macadamref03_Liars_l1, q4, q9, hlvl, hnl', q1, q6, q7, q8, e4]
theorem c29 (b : Bk) (hb : b.fit) : icall pr (.fn 29 [] []) [b.v] = some (.tup [.sl (iv b.liars.1) .shut, .int .i64 b.liars.2]) := by
  have c2 := c70 b hb true
  refine icall_fn fn29 rfl (by simp) (by simp) (by simp) ?_
  have hE : b.liars = if askE b true = 0 then (b.liarL, 0) else ([], askE b true) := rfl
  rw [hE]
  by_cases hz : askE b true = 0
  · obtain ⟨hok, h2, h3⟩ := askE_zero.1 hz
    have hlen := ok_len hok
    rw [hz] at c2
    simp only [askL, hz, if_true] at c2
    rw [if_pos hz]
    simp only [Bk.liarL]
    have hbit : ∀ c : Nat, c < 4 → ((run (liarSt b) 15 b.T).1 / 2 ^ c % 2 = 1 ↔ (b.T.all fun l => (liedTo b.ms l b.ms.length).testBit c) = true) := by
      intro c hc
      have h15 : Nat.testBit 15 c = true := by
        rcases (show c = 0 ∨ c = 1 ∨ c = 2 ∨ c = 3 by omega) with rfl | rfl | rfl | rfl <;> rfl
      have := run_bit b c b.T 15
      rw [Nat.testBit_eq_decide_div_mod_eq, decide_eq_true_eq] at this
      rw [this, List.all_eq_true]
      exact ⟨fun h => h.2, fun h => ⟨h15, h⟩⟩
    generalize hS : (run (liarSt b) 15 b.T).1 = s at *
    simp [g29_macadamref03_Liars, g29_macadamref03_Liars_c, c2]
    refine wpr_seq (wpr_oblock (loop_up pr (fun c e h => e 1 = b.bx ∧ e 4 = .sl (lv b.TL) .shut ∧ e 7 = .int .i64 c ∧ ∃ kk, e 6 = .sl (iv (outs s c)) kk ∧ Opn h kk) 4 ?_ ?_ 0 _ _ (by omega) ⟨rfl, rfl, rfl, .exact, rfl, trivial⟩))
    · rintro c e h hc ⟨e1, e4, e7, kk, e6, hop⟩
      have hw : IntKind.wrap .i64 ((c : Int) + 1) = c + 1 := wrap_id (by omega) (by omega)
      have hc4 : (c : Int) < 4 := by omega
      have hs := outs_succ s c
      have hol := outs_len s c
      have hbc := hbit c hc
      have l1 := l29_1 b hok c
      obtain ⟨k2, h2, ha, hb2, _⟩ := app_ok (bytes := 8) (new := [.int .i64 c]) (k2 := .exact) (sz := 1) (es := iv (outs s c)) hop (by simp) (iv_cell1 _) (by simp) (by simp; omega)
      generalize hV : lv b.TL = V at *
      generalize hZ : (b.T.all fun l => (liedTo b.ms l b.ms.length).testBit c) = Z at *
      simp at ha
      simp [g29_macadamref03_Liars_l2, e7, hc4]
      refine wpr_seq (wpr_oblock (wpr_seq (wpr_oblock (wpr_mono (l1 _ _ (by simp [e1]) (by simp [e4]) (by simp [e7]) rfl rfl) ?_))))
      rintro o e2 h2' ⟨rfl, rfl, r1, r4, r6, r7, r8⟩
      simp [e1] at r1
      simp [e4] at r4
      simp [e6] at r6
      simp [e7] at r7
      cases Z with
      | true =>
        rw [if_pos (hbc.2 rfl)] at hs
        simp [onB, onN, r1, r4, r6, r7, r8, hw, ha, hs, hb2]
      | false =>
        rw [if_neg (fun h => by have := hbc.1 h; cases this), List.append_nil] at hs
        simp [onB, onN, r1, r4, r6, r7, r8, hw, hs, hop]
    · rintro e h ⟨e1, e4, e7, kk, e6, hop⟩
      simp [g29_macadamref03_Liars_l2, e7, e6, onB, onN, results, rdRess, rdRes]
  · rw [if_neg hz]
    generalize lv (askL b true) = V at *
    simp [g29_macadamref03_Liars, g29_macadamref03_Liars_c, c2, results, rdRess, rdRes, hz]
end Av
end
