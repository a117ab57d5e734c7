/- StoneKnown returns true for every input, and its input reads as it did: no condition. -/
import Derived.Test.YtpjhmbfpfbpciaaDoorAvMH
import Derived.Test.YtpjhmbfpfbpciaaDoorAvMK
import Derived.KernelRfl
set_option linter.all false
set_option linter.unusedSectionVars false
set_option linter.unusedVariables false
set_option linter.unusedSimpArgs false
section
/- Contracts of the reference: All, Sooner, Fewer, Wrong. -/
set_option linter.unusedSimpArgs false
set_option linter.unusedVariables false
namespace Av
open Go (IntKind BinOp UnOp)
theorem c48 (s m : Nat) (hs : s < 64) (hm : m ≤ 6) : icall pr (.fn 48 [] []) [.int .i64 s, .int .i64 m] = some (.sl (iv (outs s m)) .shut) := by
  refine icall_fn fn48 rfl (by simp) rfl (by simp) ?_
  simp [g48_macadamref00_All, g48_macadamref00_All_c]
  refine wpr_seq (wpr_oblock (loop_up pr (fun k e h => e 0 = .int .i64 s ∧ e 1 = .int .i64 m ∧ e 6 = .int .i64 k ∧ ∃ kk, e 5 = .sl (iv (outs s k)) kk ∧ Opn h kk) m ?_ ?_ 0 _ _ (by omega) ⟨rfl, rfl, rfl, .exact, rfl, trivial⟩))
  · rintro k e h hk ⟨e0, e1, e6, kk, e5, hop⟩
    have hw : IntKind.wrap .i64 ((k : Int) + 1) = k + 1 := wrap_id (by omega) (by omega)
    have hkm : (k : Int) < m := by omega
    have c1 := c87 s k hs (by omega)
    have hsu := outs_succ s k
    have hol := outs_len s k
    have ht : s.testBit k = decide (s / 2 ^ k % 2 = 1) := Nat.testBit_eq_decide_div_mod_eq
    obtain ⟨k2, h2, ha, hb2, _⟩ := app_ok (bytes := 8) (new := [.int .i64 k]) (k2 := .exact) (sz := 1) (es := iv (outs s k)) hop (by simp) (iv_cell1 _) (by simp) (by simp; omega)
    simp at ha
    rw [ht] at c1
    by_cases hq : s / 2 ^ k % 2 = 1
    · rw [if_pos hq] at hsu
      rw [decide_eq_true hq] at c1
      simp [g48_macadamref00_All_l0, e0, e1, e6, e5, hk, c1, hw, ha, hb2, hsu]
    · rw [if_neg hq, List.append_nil] at hsu
      rw [decide_eq_false hq] at c1
      simp [g48_macadamref00_All_l0, e0, e1, e6, e5, hk, c1, hw, hsu, hop]
  · rintro e h ⟨e0, e1, e6, kk, e5, hop⟩
    simp [g48_macadamref00_All_l0, e0, e1, e6, e5, onB, onN, results, rdRess, rdRes]
/-- does a list come before another one? -/
def sooner : List Int → List Int → Bool
  | x :: l, y :: m => if x = y then sooner l m else decide (x < y)
  | [], [] => false
  | [], _ :: _ => true
  | _ :: _, [] => false
def fewer (l m : List Int) : Bool := if l.length = m.length then sooner l m else decide (l.length < m.length)
theorem c88 (l m : List Int) (hl : (l.length : Int) ≤ 9223372036854775807) : icall pr (.fn 88 [] []) [.sl (iv l) .shut, .sl (iv m) .shut] = some (.bool (sooner l m)) := by
  refine icall_fn fn88 rfl (by simp) (by simp) rfl ?_
  simp [g88_macadamref00_Sooner, g88_macadamref00_Sooner_c]
  have hiv : ∀ (q : List Int) (k : Nat) (h : k < q.length), (iv q)[k]? = some (.int .i64 q[k]) := fun q k h => by rw [iv_get, List.getElem?_eq_getElem h]; rfl
  refine wpr_seq (wpr_oblock (loop_up pr (fun k e h => e 0 = .sl (iv l) .shut ∧ e 1 = .sl (iv m) .shut ∧ e 5 = .int .i64 k ∧ sooner l m = sooner (l.drop k) (m.drop k)) (min l.length m.length) ?_ ?_ 0 _ _ (by omega) ⟨rfl, rfl, rfl, rfl⟩))
  · rintro k e h hk ⟨e0, e1, e5, hs⟩
    have hkl : k < l.length := by omega
    have hkm : k < m.length := by omega
    have hw : IntKind.wrap .i64 ((k : Int) + 1) = k + 1 := wrap_id (by omega) (by omega)
    rw [List.drop_eq_getElem_cons hkl, List.drop_eq_getElem_cons hkm, sooner] at hs
    by_cases hq : l[k] = m[k]
    · rw [if_pos hq] at hs
      simp [g88_macadamref00_Sooner_l0, e0, e1, e5, hkl, hkm, hq, hw, hs]
    · rw [if_neg hq] at hs
      simp [g88_macadamref00_Sooner_l0, e0, e1, e5, hkl, hkm, hq, hw, hs, onB, onN, results, rdRess, rdRes]
  · rintro e h ⟨e0, e1, e5, hs⟩
    by_cases hq : l.length ≤ m.length
    · have hmn : min l.length m.length = l.length := by omega
      rw [hmn] at e5 hs
      rw [List.drop_length] at hs
      have hs2 : sooner l m = decide (l.length < m.length) := by
        rw [hs]
        by_cases h2 : l.length = m.length
        · rw [h2, List.drop_length]; simp [sooner]
        · have h3 : l.length < m.length := by omega
          rw [List.drop_eq_getElem_cons h3]; simp [sooner, h3]
      simp [g88_macadamref00_Sooner_l0, e0, e1, e5, hs2, onB, onN, results, rdRess, rdRes]
    · have hmn : min l.length m.length = m.length := by omega
      rw [hmn] at e5 hs
      rw [List.drop_length] at hs
      have h3 : m.length < l.length := by omega
      have hs2 : sooner l m = false := by
        rw [hs, List.drop_eq_getElem_cons h3]; rfl
      have h4 : ¬ l.length < m.length := by omega
      simp [g88_macadamref00_Sooner_l0, e0, e1, e5, hs2, h3, h4, onB, onN, results, rdRess, rdRes]
theorem c50 (l m : List Int) (hl : (l.length : Int) ≤ 9223372036854775807) : icall pr (.fn 50 [] []) [.sl (iv l) .shut, .sl (iv m) .shut] = some (.bool (fewer l m)) := by
  refine icall_fn fn50 rfl (by simp) (by simp) rfl ?_
  have c1 := c88 l m hl
  by_cases hq : l.length = m.length
  · simp [g50_macadamref00_Fewer, g50_macadamref00_Fewer_c, results, rdRess, rdRes, hq, c1, fewer]
  · have hq' : ¬ (l.length : Int) = m.length := by omega
    simp [g50_macadamref00_Fewer, g50_macadamref00_Fewer_c, results, rdRess, rdRes, hq, hq', fewer]
/-- the best so far -/
def Bk.bestTo (b : Bk) : Nat → List Int
  | 0 => outs (2 ^ b.ms.length - 1) b.ms.length
  | k + 1 => if fewer (outs k b.ms.length) (b.bestTo k) && b.can (fun j => k.testBit j) then outs k b.ms.length else b.bestTo k
def Bk.wrongR (b : Bk) : List Int × Int := if b.ok then (if b.can (fun j => (2 ^ b.ms.length - 1).testBit j) then (b.bestTo (2 ^ b.ms.length), 0) else ([], 32)) else ([], 30)
theorem cart_can (b : Bk) (bs : Nat → Bool) : 0 < (cartL b bs zeros b.ms.length).length ↔ b.can bs = true := by
  simp only [cartL, List.length_map, Bk.can, Bk.all]
  cases b.carts bs zeros b.ms.length <;> simp
theorem bestTo_len (b : Bk) (k : Nat) : (b.bestTo k).length ≤ b.ms.length := by
  induction k with
  | zero => exact outs_len _ _
  | succ k ih => simp only [Bk.bestTo]; split; exact outs_len _ _; exact ih
theorem c34 (b : Bk) (hb : b.fit) : icall pr (.fn 34 [] []) [b.v] = some (.tup [.sl (iv b.wrongR.1) .shut, .int .i64 b.wrongR.2]) := by
  refine icall_fn fn34 rfl (by simp) (by simp) (by simp) ?_
  cases hok : b.ok with
  | false => simp [g34_macadamref03_Wrong, g34_macadamref03_Wrong_c, c18 b hb, hok, results, rdRess, rdRes, Bk.wrongR]
  | true =>
    have hlen := ok_len hok
    have h32 : 2 ^ b.ms.length ≤ 32 := Nat.le_trans (Nat.pow_le_pow_right (by omega) hlen.2.2) (by decide)
    have hp : 0 < 2 ^ b.ms.length := Nat.pow_pos (by omega)
    have hsh := bin_shl b.ms.length (by omega)
    have hfull := dc58 b hok (2 ^ b.ms.length - 1) (by omega) b.ms.length 0 zeros (by omega) lok_zeros
    have hcf := cart_can b (fun j => (2 ^ b.ms.length - 1).testBit j)
    have hall := c48 (2 ^ b.ms.length - 1) b.ms.length (by omega) (by omega)
    have hcast : ((2 ^ b.ms.length - 1 : Nat) : Int) = ((2 ^ b.ms.length : Nat) : Int) - 1 := by omega
    have hw1 : IntKind.wrap .i64 (((2 ^ b.ms.length : Nat) : Int) - 1) = ((2 ^ b.ms.length : Nat) : Int) - 1 := wrap_id (by omega) (by omega)
    have hR : b.wrongR = if b.can (fun j => (2 ^ b.ms.length - 1).testBit j) then (b.bestTo (2 ^ b.ms.length), 0) else ([], 32) := by simp only [Bk.wrongR, hok, if_true]
    have hz : iv (zeros.take 0) = [] := rfl
    rw [hz] at hfull
    rw [hcast] at hfull hall
    rw [hR]
    have hstep : ∀ k : Nat, k < 2 ^ b.ms.length → icall pr (.fn 58 [] []) [b.v, .int .i64 k, .sl [] .shut] = some (.sl (lv (cartL b (fun j => k.testBit j) zeros b.ms.length)) .shut) := fun k hk => by
      have := dc58 b hok k (by omega) b.ms.length 0 zeros (by omega) lok_zeros
      rw [hz] at this; exact this
    have hbest0 : b.bestTo 0 = outs (2 ^ b.ms.length - 1) b.ms.length := rfl
    generalize hN : 2 ^ b.ms.length = N at *
    cases hc : b.can (fun j => (N - 1).testBit j) with
    | false =>
      have h0 : (cartL b (fun j => (N - 1).testBit j) zeros b.ms.length).length = 0 := by
        have : ¬ 0 < (cartL b (fun j => (N - 1).testBit j) zeros b.ms.length).length := fun h => by rw [hcf.1 h] at hc; cases hc
        omega
      generalize hQ : cartL b (fun j => (N - 1).testBit j) zeros b.ms.length = Q at *
      simp [g34_macadamref03_Wrong, g34_macadamref03_Wrong_c, c18 b hb, hok, hsh, hw1, hfull, h0, results, rdRess, rdRes]
    | true =>
      have h0 : ¬ (cartL b (fun j => (N - 1).testBit j) zeros b.ms.length).length = 0 := by
        have := hcf.2 hc; omega
      generalize hQ : cartL b (fun j => (N - 1).testBit j) zeros b.ms.length = Q at *
      have h0' : ¬ Q = [] := fun h => h0 (by rw [h]; rfl)
      simp [g34_macadamref03_Wrong, g34_macadamref03_Wrong_c, c18 b hb, hok, hsh, hw1, hfull, hall, h0, h0']
      refine wpr_seq (wpr_oblock (loop_up pr (fun k e h => e 1 = b.bx ∧ e 5 = .int .i64 b.ms.length ∧ e 7 = .int .i64 k ∧ ∃ kk, e 6 = .sl (iv (b.bestTo k)) kk) N ?_ ?_ 0 _ _ (by omega) ⟨rfl, rfl, rfl, .shut, by simp [hbest0]⟩))
      · rintro k e h hk ⟨e1, e5, e7, kk, e6⟩
        have hw : IntKind.wrap .i64 ((k : Int) + 1) = k + 1 := wrap_id (by omega) (by omega)
        have hkN : (k : Int) < N := by omega
        have c1 := c48 k b.ms.length (by omega) (by omega)
        have hol := outs_len k b.ms.length
        have c2 := c50 (outs k b.ms.length) (b.bestTo k) (by omega)
        have c3 := hstep k hk
        have hcc := cart_can b (fun j => k.testBit j)
        have hbs : b.bestTo (k + 1) = if fewer (outs k b.ms.length) (b.bestTo k) && b.can (fun j => k.testBit j) then outs k b.ms.length else b.bestTo k := rfl
        rw [hbs]
        generalize outs k b.ms.length = O at *
        generalize b.bestTo k = B at *
        generalize cartL b (fun j => k.testBit j) zeros b.ms.length = D at *
        cases hf : fewer O B with
        | false =>
          rw [hf] at c2
          simp [g34_macadamref03_Wrong_l0, e1, e5, e7, e6, hsh, hkN, hk, c1, c2, hw]
        | true =>
          rw [hf] at c2
          cases hcn : b.can (fun j => k.testBit j) with
          | true =>
            have h1 : 0 < D.length := hcc.2 hcn
            simp [g34_macadamref03_Wrong_l0, e1, e5, e7, e6, hsh, hkN, hk, c1, c2, c3, hw, h1]
          | false =>
            have h1 : ¬ 0 < D.length := fun h => by rw [hcc.1 h] at hcn; cases hcn
            have h2 : D = [] := List.length_eq_zero_iff.1 (by omega)
            simp [g34_macadamref03_Wrong_l0, e1, e5, e7, e6, hsh, hkN, hk, c1, c2, c3, hw, h2]
      · rintro e h ⟨e1, e5, e7, kk, e6⟩
        simp [g34_macadamref03_Wrong_l0, e5, e7, e6, hsh, onB, onN, results, rdRess, rdRes]
end Av
end

section
/- The tallies that must be false: program and reference choose the same. -/
set_option linter.unusedSimpArgs false
set_option linter.unusedVariables false
namespace Av
theorem tr_mono {b : Bk} {bs bs' : Nat → Bool} (h : ∀ k, k < b.ms.length → bs k = true → bs' k = true) {l : List Int} (hl : Tr b bs l) : Tr b bs' l := by
  refine ⟨hl.lok, hl.nil, fun j hj => ?_, hl.fits⟩
  have hm : b.ms[j]? = some b.ms[j] := List.getElem?_eq_getElem hj
  exact (right_iff hm).2 (((right_iff hm).1 (hl.right j hj)).imp (h j hj) id)
theorem can_mono {b : Bk} (hok : b.ok = true) {bs bs' : Nat → Bool} (h : ∀ k, k < b.ms.length → bs k = true → bs' k = true) (hc : b.can bs = true) : b.can bs' = true := by
  obtain ⟨l, hl⟩ := (can_iff hok).1 hc
  exact (can_iff hok).2 ⟨l, tr_mono h hl⟩
theorem can_congr {b : Bk} (hok : b.ok = true) {bs bs' : Nat → Bool} (h : ∀ k, k < b.ms.length → bs k = bs' k) : b.can bs = b.can bs' := by
  rw [Bool.eq_iff_iff]
  exact ⟨can_mono hok fun k hk h1 => by rw [← h k hk]; exact h1, can_mono hok fun k hk h1 => by rw [h k hk]; exact h1⟩
theorem find_range {β : Type} (g : Nat → Option β) (N : Nat) (W : β) (h : (List.range N).findSome? g = some W) : ∃ n, n < N ∧ g n = some W ∧ ∀ j, j < n → g j = none := by
  induction N with
  | zero => simp at h
  | succ N ih =>
    cases hN : (List.range N).findSome? g with
    | some V =>
      rw [findSome_pre g N (N + 1) V (by omega) hN] at h
      cases h
      obtain ⟨n, h1, h2, h3⟩ := ih hN
      exact ⟨n, by omega, h2, h3⟩
    | none =>
      rw [findSome_succ g N hN] at h
      rw [List.findSome?_eq_none_iff] at hN
      exact ⟨N, by omega, h, fun j hj => hN j (List.mem_range.2 hj)⟩
theorem from_app (l : List Int) (n : Int) : fromI (l ++ [n]) = n + 1 := by
  cases l with
  | nil => simp [fromI]
  | cons x t => simp [fromI]
theorem choose_spec (b : Bk) : ∀ (d : Nat) (l : List Int), 0 ≤ fromI l →
    (∀ W, b.choose d l = some W → ∃ suf, W = l ++ suf ∧ suf.length = d ∧ rising b.ms.length (fromI l - 1) suf = true ∧ b.can (inL W) = true ∧
      ∀ s', s'.length = d → rising b.ms.length (fromI l - 1) s' = true → b.can (inL (l ++ s')) = true → sooner s' suf = false) ∧
    (b.choose d l = none → ∀ s', s'.length = d → rising b.ms.length (fromI l - 1) s' = true → b.can (inL (l ++ s')) = false) := by
  intro d
  induction d with
  | zero =>
    intro l h0
    constructor
    · intro W hW
      simp only [Bk.choose] at hW
      split at hW
      · cases hW
        rename_i hc
        exact ⟨[], by simp, rfl, rfl, hc, fun s' hs _ _ => by rw [List.length_eq_zero_iff.1 hs]; rfl⟩
      · cases hW
    · intro hN s' hs _
      simp only [Bk.choose] at hN
      split at hN
      · cases hN
      · rename_i hc
        rw [List.length_eq_zero_iff.1 hs, List.append_nil]
        simpa using hc
  | succ d ih =>
    intro l h0
    have hex : ∀ s', s'.length = d + 1 → rising b.ms.length (fromI l - 1) s' = true → ∃ (n : Nat) (t : List Int), s' = (n : Int) :: t ∧ t.length = d ∧ n < b.ms.length ∧ fromI l ≤ n ∧ rising b.ms.length n t = true := by
      intro s' hs hr
      cases s' with
      | nil => simp at hs
      | cons x t =>
        simp only [rising, Bool.and_eq_true, decide_eq_true_eq] at hr
        obtain ⟨n, rfl⟩ := Int.eq_ofNat_of_zero_le (show 0 ≤ x by omega)
        exact ⟨n, t, rfl, by simpa using hs, by omega, by omega, hr.2⟩
    have hfr : ∀ n : Nat, fromI (l ++ [(n : Int)]) - 1 = n := fun n => by rw [from_app]; omega
    constructor
    · intro W hW
      obtain ⟨n, hn, hg, hb⟩ := find_range _ _ _ hW
      split at hg
      · rename_i hfn
        obtain ⟨suf, h1, h2, h3, h4, h5⟩ := (ih (l ++ [(n : Int)]) (by rw [from_app]; omega)).1 W hg
        rw [hfr] at h3 h5
        refine ⟨(n : Int) :: suf, by simp [h1], by simp [h2], ?_, h4, fun s' hs hr hc => ?_⟩
        · simp only [rising, h3, Bool.and_true, decide_eq_true_eq]; omega
        · obtain ⟨n', t, rfl, ht, hn', hf', hr'⟩ := hex s' hs hr
          have e1 : l ++ (n' : Int) :: t = l ++ [(n' : Int)] ++ t := by simp
          simp only [sooner]
          by_cases hq : n' = n
          · subst hq
            rw [if_pos rfl]
            exact h5 t ht hr' (by rw [← e1]; exact hc)
          · rw [if_neg (by omega)]
            by_cases hlt : n' < n
            · have hnone := hb n' hlt
              simp only [hf', if_true] at hnone
              have := (ih (l ++ [(n' : Int)]) (by rw [from_app]; omega)).2 hnone t ht (by rw [hfr]; exact hr')
              rw [e1, this] at hc; cases hc
            · exact decide_eq_false (by omega)
      · cases hg
    · intro hN s' hs hr
      obtain ⟨n', t, rfl, ht, hn', hf', hr'⟩ := hex s' hs hr
      have e1 : l ++ (n' : Int) :: t = l ++ [(n' : Int)] ++ t := by simp
      simp only [Bk.choose] at hN
      rw [List.findSome?_eq_none_iff] at hN
      have hnone := hN n' (List.mem_range.2 hn')
      simp only [hf', if_true] at hnone
      have := (ih (l ++ [(n' : Int)]) (by rw [from_app]; omega)).2 hnone t ht (by rw [hfr]; exact hr')
      rw [e1]; exact this

theorem rising_iff (below : Int) (L : List Int) : ∀ last, rising below last L = true ↔ L.Pairwise (· < ·) ∧ ∀ x ∈ L, last < x ∧ x < below := by
  induction L with
  | nil => intro last; simp [rising]
  | cons x l ih =>
    intro last
    simp only [rising, Bool.and_eq_true, decide_eq_true_eq, ih, List.pairwise_cons, List.mem_cons, forall_eq_or_imp]
    constructor
    · rintro ⟨h1, h2, h3⟩
      exact ⟨⟨fun y hy => (h3 y hy).1, h2⟩, h1, fun y hy => ⟨by have := (h3 y hy).1; omega, (h3 y hy).2⟩⟩
    · rintro ⟨⟨h1, h2⟩, h3, h4⟩
      exact ⟨h3, h2, fun y hy => ⟨h1 y hy, (h4 y hy).2⟩⟩
theorem sorted_ext : ∀ (l m : List Int), l.Pairwise (· < ·) → m.Pairwise (· < ·) → (∀ x, x ∈ l ↔ x ∈ m) → l = m := by
  intro l
  induction l with
  | nil =>
    intro m _ _ h
    cases m with
    | nil => rfl
    | cons y m => exact absurd ((h y).2 (by simp)) (by simp)
  | cons x l ih =>
    intro m h1 h2 h
    cases m with
    | nil => exact absurd ((h x).1 (by simp)) (by simp)
    | cons y m =>
      rw [List.pairwise_cons] at h1 h2
      have hxy : x = y := by
        have hx := (h x).1 (by simp)
        have hy := (h y).2 (by simp)
        rcases List.mem_cons.1 hx with rfl | hx
        · rfl
        · rcases List.mem_cons.1 hy with rfl | hy
          · rfl
          · have := h2.1 x hx
            have := h1.1 y hy
            omega
      subst hxy
      congr 1
      refine ih m h1.2 h2.2 fun z => ?_
      constructor
      · intro hz
        rcases List.mem_cons.1 ((h z).1 (by simp [hz])) with rfl | h3
        · exact absurd (h1.1 z hz) (by omega)
        · exact h3
      · intro hz
        rcases List.mem_cons.1 ((h z).2 (by simp [hz])) with rfl | h3
        · exact absurd (h2.1 z hz) (by omega)
        · exact h3
theorem outs_sorted (s k : Nat) : (outs s k).Pairwise (· < ·) := by
  unfold outs
  refine List.Pairwise.map _ (fun a b h => by simpa using h) ?_
  exact List.Pairwise.filter _ List.pairwise_lt_range
theorem outs_rise (s k : Nat) : rising k (-1) (outs s k) = true := by
  rw [rising_iff]
  refine ⟨outs_sorted s k, fun x hx => ?_⟩
  obtain ⟨c, h1, rfl, _⟩ := (outs_mem s k x).1 hx
  omega
theorem outs_in {s k j : Nat} (hj : j < k) : inL (outs s k) j = s.testBit j := by
  rw [Bool.eq_iff_iff]
  simp only [inL, decide_eq_true_eq, outs_mem]
  constructor
  · rintro ⟨c, _, h2, h3⟩
    have : c = j := by omega
    subst this; exact h3
  · intro h; exact ⟨j, hj, rfl, h⟩
theorem setTo_bit (l : List Int) (k c : Nat) : (setTo l k).testBit c = true ↔ ∃ j, j < k ∧ (l.getD j 0).toNat = c := by
  induction k with
  | zero => simp [setTo]
  | succ k ih =>
    simp only [setTo, Nat.testBit_or, Bool.or_eq_true, ih, Nat.testBit_two_pow, decide_eq_true_eq]
    constructor
    · rintro (⟨j, h1, h2⟩ | h)
      · exact ⟨j, by omega, h2⟩
      · exact ⟨k, by omega, h⟩
    · rintro ⟨j, h1, h2⟩
      by_cases hq : j = k
      · subst hq; exact .inr h2
      · exact .inl ⟨j, by omega, h2⟩
theorem setTo_lt2 (l : List Int) (m k : Nat) (h : ∀ j, j < k → (l.getD j 0).toNat < m) : setTo l k < 2 ^ m := by
  induction k with
  | zero => exact Nat.pow_pos (by omega)
  | succ k ih => exact Nat.or_lt_two_pow (ih fun j hj => h j (by omega)) (Nat.pow_lt_pow_right (by omega) (h k (by omega)))
/-- a rising list is a set's -/
theorem outs_of {L : List Int} {m : Nat} (h : rising m (-1) L = true) : ∃ s, s < 2 ^ m ∧ outs s m = L := by
  rw [rising_iff] at h
  have hg : ∀ j, j < L.length → L.getD j 0 ∈ L := fun j hj => by
    rw [List.getD_eq_getElem?_getD, List.getElem?_eq_getElem hj]; exact List.getElem_mem _
  refine ⟨setTo L L.length, setTo_lt2 L m _ (fun j hj => by have := h.2 _ (hg j hj); omega), ?_⟩
  refine sorted_ext _ _ (outs_sorted _ _) h.1 fun x => ?_
  rw [outs_mem]
  constructor
  · rintro ⟨c, h1, rfl, h3⟩
    obtain ⟨j, h4, h5⟩ := (setTo_bit L _ c).1 h3
    have := h.2 _ (hg j h4)
    have e : L.getD j 0 = (c : Int) := by omega
    rw [← e]; exact hg j h4
  · intro hx
    have := h.2 x hx
    obtain ⟨j, hj, hjx⟩ := List.mem_iff_getElem.1 hx
    refine ⟨x.toNat, by omega, by omega, (setTo_bit L _ _).2 ⟨j, hj, ?_⟩⟩
    rw [List.getD_eq_getElem?_getD, List.getElem?_eq_getElem hj, hjx]; rfl

theorem sooner_trans : ∀ (A B C : List Int), sooner A B = true → sooner B C = true → sooner A C = true := by
  intro A
  induction A with
  | nil =>
    intro B C h1 h2
    cases B with
    | nil => exact absurd h1 (by simp [sooner])
    | cons y B => cases C with
      | nil => exact absurd h2 (by simp [sooner])
      | cons z C => rfl
  | cons x A ih =>
    intro B C h1 h2
    cases B with
    | nil => exact absurd h1 (by simp [sooner])
    | cons y B => cases C with
      | nil => exact absurd h2 (by simp [sooner])
      | cons z C =>
        simp only [sooner] at h1 h2 ⊢
        by_cases e1 : x = y
        · subst e1
          rw [if_pos rfl] at h1
          by_cases e2 : x = z
          · subst e2
            rw [if_pos rfl] at h2 ⊢
            exact ih B C h1 h2
          · rw [if_neg e2] at h2 ⊢; exact h2
        · rw [if_neg e1] at h1
          by_cases e2 : y = z
          · subst e2; rw [if_neg e1]; exact h1
          · rw [if_neg e2] at h2
            simp only [decide_eq_true_eq] at h1 h2
            rw [if_neg (by omega), decide_eq_true (by omega)]
theorem sooner_total : ∀ (A B : List Int), sooner A B = false → sooner B A = false → A = B := by
  intro A
  induction A with
  | nil => intro B h1 h2; cases B with
    | nil => rfl
    | cons y B => exact absurd h1 (by simp [sooner])
  | cons x A ih => intro B h1 h2; cases B with
    | nil => exact absurd h2 (by simp [sooner])
    | cons y B =>
      simp only [sooner] at h1 h2
      by_cases e : x = y
      · subst e
        rw [if_pos rfl] at h1 h2
        rw [ih B h1 h2]
      · rw [if_neg e] at h1
        rw [if_neg (fun h => e h.symm)] at h2
        simp only [decide_eq_false_iff_not] at h1 h2
        omega
theorem fewer_trans {A B C : List Int} (h1 : fewer A B = true) (h2 : fewer B C = true) : fewer A C = true := by
  simp only [fewer] at h1 h2 ⊢
  by_cases e1 : A.length = B.length
  · rw [if_pos e1] at h1
    by_cases e2 : B.length = C.length
    · rw [if_pos e2] at h2
      rw [if_pos (e1.trans e2)]; exact sooner_trans A B C h1 h2
    · rw [if_neg e2] at h2
      rw [if_neg (by omega)]
      simp only [decide_eq_true_eq] at h2 ⊢; omega
  · rw [if_neg e1] at h1
    simp only [decide_eq_true_eq] at h1
    by_cases e2 : B.length = C.length
    · rw [if_neg (by omega), decide_eq_true (by omega)]
    · rw [if_neg e2] at h2
      simp only [decide_eq_true_eq] at h2
      rw [if_neg (by omega), decide_eq_true (by omega)]
theorem fewer_total {A B : List Int} (h1 : fewer A B = false) (h2 : fewer B A = false) : A = B := by
  simp only [fewer] at h1 h2
  by_cases e : A.length = B.length
  · rw [if_pos e] at h1
    rw [if_pos e.symm] at h2
    exact sooner_total A B h1 h2
  · rw [if_neg e] at h1
    rw [if_neg (fun h => e h.symm)] at h2
    simp only [decide_eq_false_iff_not] at h1 h2
    omega
theorem fewer_irrefl (A : List Int) : fewer A A = false := by
  have : ∀ A : List Int, sooner A A = false := by
    intro A
    induction A with
    | nil => rfl
    | cons x A ih => simp [sooner, ih]
  simp [fewer, this]
/-- what the reference keeps -/
theorem best_spec {b : Bk} (hok : b.ok = true) (hc : b.can (fun j => (2 ^ b.ms.length - 1).testBit j) = true) : ∀ k,
    rising b.ms.length (-1) (b.bestTo k) = true ∧ b.can (inL (b.bestTo k)) = true ∧ ∀ s, s < k → b.can (fun j => s.testBit j) = true → fewer (outs s b.ms.length) (b.bestTo k) = false := by
  intro k
  induction k with
  | zero => exact ⟨outs_rise _ _, by rw [← hc]; exact can_congr hok fun j hj => outs_in hj, by omega⟩
  | succ k ih =>
    obtain ⟨i1, i2, i3⟩ := ih
    simp only [Bk.bestTo]
    split
    · rename_i hq
      simp only [Bool.and_eq_true] at hq
      refine ⟨outs_rise _ _, by rw [← hq.2]; exact can_congr hok fun j hj => outs_in hj, fun s hs hcs => ?_⟩
      by_cases hk : s = k
      · subst hk; exact fewer_irrefl _
      · rw [← Bool.not_eq_true]
        intro h
        have := fewer_trans h hq.1
        rw [i3 s (by omega) hcs] at this; cases this
    · rename_i hq
      refine ⟨i1, i2, fun s hs hcs => ?_⟩
      by_cases hk : s = k
      · subst hk
        rw [hcs, Bool.and_true] at hq
        simpa using hq
      · exact i3 s (by omega) hcs
/-- what the program chooses -/
theorem wrong_spec {b : Bk} (hok : b.ok = true) {W : List Int} (h : b.wrongO = some W) :
    rising b.ms.length (-1) W = true ∧ b.can (inL W) = true ∧ W.length ≤ b.ms.length ∧ ∀ L, rising b.ms.length (-1) L = true → b.can (inL L) = true → L.length ≤ b.ms.length → fewer L W = false := by
  obtain ⟨d, hd, hg, hb⟩ := find_range _ _ _ h
  obtain ⟨suf, h1, h2, h3, h4, h5⟩ := (choose_spec b d [] (by simp [fromI])).1 W hg
  simp only [List.nil_append] at h1
  subst h1
  simp only [fromI, Int.zero_sub] at h3 h5
  refine ⟨h3, h4, by omega, fun L hr hc hl => ?_⟩
  simp only [fewer]
  by_cases e : L.length = W.length
  · rw [if_pos e]
    exact h5 L (by omega) hr (by simpa using hc)
  · rw [if_neg e]
    rw [decide_eq_false_iff_not]
    intro hlt
    have := (choose_spec b L.length [] (by simp [fromI])).2 (hb L.length (by omega)) L rfl (by simpa [fromI] using hr)
    rw [List.nil_append, hc] at this; cases this
theorem rise_len {m : Nat} {L : List Int} (h : rising m (-1) L = true) : L.length ≤ m := by
  obtain ⟨s, _, rfl⟩ := outs_of h
  exact outs_len _ _
theorem wrong_none {b : Bk} (hok : b.ok = true) (h : b.wrongO = none) (L : List Int) (hr : rising b.ms.length (-1) L = true) : b.can (inL L) = false := by
  simp only [Bk.wrongO] at h
  rw [List.findSome?_eq_none_iff] at h
  have hl := rise_len hr
  have := (choose_spec b L.length [] (by simp [fromI])).2 (h L.length (List.mem_range.2 (by omega))) L rfl (by simpa [fromI] using hr)
  simpa using this
theorem wrong_eq (b : Bk) : b.wrong = b.wrongR := by
  simp only [Bk.wrong, Bk.wrongR]
  cases hok : b.ok with
  | false => rfl
  | true =>
    simp only [if_true]
    cases hW : b.wrongO with
    | none =>
      have hf := wrong_none hok hW (outs (2 ^ b.ms.length - 1) b.ms.length) (outs_rise _ _)
      rw [can_congr hok (bs' := fun j => (2 ^ b.ms.length - 1).testBit j) fun j hj => outs_in hj] at hf
      rw [hf]; rfl
    | some W =>
      obtain ⟨w1, w2, w3, w4⟩ := wrong_spec hok hW
      have hfull : b.can (fun j => (2 ^ b.ms.length - 1).testBit j) = true := can_mono hok (fun k hk _ => by
        rw [Nat.testBit_two_pow_sub_one]; exact decide_eq_true hk) w2
      rw [hfull]
      simp only [if_true]
      obtain ⟨b1, b2, b3⟩ := best_spec hok hfull (2 ^ b.ms.length)
      congr 1
      refine fewer_total ?_ (w4 _ b1 b2 (rise_len b1))
      obtain ⟨s, hs, hsW⟩ := outs_of w1
      have := b3 s hs (by
        rw [← w2, ← hsW]
        exact (can_congr hok fun j hj => outs_in hj).symm)
      rw [hsW] at this; exact this
end Av
end

section
/- A book in which a load was told otherwise; rows as cells of memory. -/
set_option linter.unusedSimpArgs false
set_option linter.unusedVariables false
namespace Av
open Go (IntKind BinOp UnOp)
def Mv.told (m : Mv) (n : Int) : Mv := ⟨m.f, m.t, m.c, n⟩
def toldAt : List Mv → Nat → Int → List Mv
  | [], _, _ => []
  | m :: ms, 0, n => m.told n :: ms
  | m :: ms, k + 1, n => m :: toldAt ms k n
theorem told_len (ms : List Mv) (k n) : (toldAt ms k n).length = ms.length := by
  induction ms generalizing k with
  | nil => rfl
  | cons m ms ih => cases k <;> simp [toldAt, ih]
theorem told_get (ms : List Mv) (k n) (j : Nat) : (toldAt ms k n)[j]? = if j = k then (ms[j]?).map (·.told n) else ms[j]? := by
  induction ms generalizing k j with
  | nil => simp [toldAt]
  | cons m ms ih =>
    cases k with
    | zero => cases j <;> simp [toldAt]
    | succ k => cases j <;> simp [toldAt, ih]
def Bk.told (b : Bk) (k : Nat) (n : Int) : Bk := ⟨b.hs, toldAt b.ms k n, b.l0, b.l1, b.l2, b.l3⟩
theorem told_ok {b : Bk} (h : b.ok = true) (k : Nat) {n : Int} (hn : 0 ≤ n ∧ n ≤ 6) : (b.told k n).ok = true := by
  simp only [Bk.ok, Bool.and_eq_true] at h
  simp only [Bk.ok, Bool.and_eq_true, Bk.told, told_len]
  refine ⟨⟨h.1.1, ?_⟩, h.2⟩
  have h2 := List.all_eq_true.1 h.1.2
  rw [List.all_eq_true]
  intro m hm
  obtain ⟨j, hj⟩ := List.mem_iff_getElem?.1 hm
  rw [told_get] at hj
  split at hj
  · obtain ⟨m0, h0, rfl⟩ := Option.map_eq_some_iff.1 hj
    have := h2 m0 (List.mem_of_getElem? h0)
    simp only [Mv.ok, Bool.and_eq_true, decide_eq_true_eq] at this
    show (isEnd b.hs.length m0.f && isEnd b.hs.length m0.t && decide (m0.f ≠ m0.t ∧ (0 ≤ m0.c ∧ m0.c ≤ 3) ∧ 0 ≤ n ∧ n ≤ 6)) = true
    simp only [Bool.and_eq_true, decide_eq_true_eq]
    exact ⟨this.1, this.2.1, this.2.2.1, hn⟩
  · exact h2 m (List.mem_of_getElem? hj)
/-- as cells -/
def mc (ms : List Mv) : List Int := ms.flatMap fun m => [m.f, m.t, m.c, m.n]
theorem mc_len (ms : List Mv) : (mc ms).length = ms.length * 4 := by
  induction ms with
  | nil => rfl
  | cons m ms ih => simp only [mc, List.flatMap_cons, List.length_append, List.length_cons, List.length_nil] at ih ⊢; omega
theorem mvs_cells (ms : List Mv) : (mvs ms).flatMap AV.cells = iv (mc ms) := by
  induction ms with
  | nil => rfl
  | cons m ms ih =>
    have : mvs (m :: ms) = m.v :: mvs ms := rfl
    rw [this, List.flatMap_cons, ih]; rfl
theorem chunk_mc (ms : List Mv) : chunk 4 ms.length (iv (mc ms)) = mvs ms := by
  induction ms with
  | nil => rfl
  | cons m ms ih =>
    have : iv (mc (m :: ms)) = .int .i64 m.f :: .int .i64 m.t :: .int .i64 m.c :: .int .i64 m.n :: iv (mc ms) := rfl
    rw [this]
    simp only [List.length_cons, chunk]
    rw [if_neg (by omega)]
    simp only [List.take_succ_cons, List.take_zero, List.drop_succ_cons, List.drop_zero, ih]
    rfl
theorem mc_set (ms : List Mv) (k : Nat) (n : Int) (h : k < ms.length) : (mc ms).set (k * 4 + 3) n = mc (toldAt ms k n) := by
  induction ms generalizing k with
  | nil => simp at h
  | cons m ms ih =>
    cases k with
    | zero => rfl
    | succ k =>
      have h1 : mc (m :: ms) = m.f :: m.t :: m.c :: m.n :: mc ms := rfl
      rw [h1, show (k + 1) * 4 + 3 = k * 4 + 3 + 1 + 1 + 1 + 1 by omega]
      simp only [List.set_cons_succ, ih k (by simpa using h)]
      rfl
theorem mvs_cell4 (ms : List Mv) : (mvs ms).all (fun v => decide (v.cells.length = 4) && v.flats) = true := by
  induction ms with
  | nil => rfl
  | cons m ms ih => simp [mvs, AV.flats]
/-! heaps -/
def hc (hs : List Hp) : List Int := hs.flatMap fun x => [x.a, x.b, x.c, x.d]
theorem hc_len (hs : List Hp) : (hc hs).length = hs.length * 4 := by
  induction hs with
  | nil => rfl
  | cons m ms ih => simp only [hc, List.flatMap_cons, List.length_append, List.length_cons, List.length_nil] at ih ⊢; omega
theorem hvs_cells (hs : List Hp) : (hvs hs).flatMap AV.cells = iv (hc hs) := by
  induction hs with
  | nil => rfl
  | cons m ms ih =>
    have : hvs (m :: ms) = m.v :: hvs ms := rfl
    rw [this, List.flatMap_cons, ih]; rfl
theorem chunk_hc (hs : List Hp) : chunk 4 hs.length (iv (hc hs)) = hvs hs := by
  induction hs with
  | nil => rfl
  | cons m ms ih =>
    have : iv (hc (m :: ms)) = .int .i64 m.a :: .int .i64 m.b :: .int .i64 m.c :: .int .i64 m.d :: iv (hc ms) := rfl
    rw [this]
    simp only [List.length_cons, chunk]
    rw [if_neg (by omega)]
    simp only [List.take_succ_cons, List.take_zero, List.drop_succ_cons, List.drop_zero, ih]
    rfl
theorem hvs_cell4 (hs : List Hp) : (hvs hs).all (fun v => decide (v.cells.length = 4) && v.flats) = true := by
  induction hs with
  | nil => rfl
  | cons m ms ih => simp [hvs, AV.flats]
end Av
end

section
/- Contracts: Pick, From, freed, mends. -/
set_option linter.unusedSimpArgs false
set_option linter.unusedVariables false
namespace Av
open Go (IntKind BinOp UnOp)
theorem c38b (n m : Int) (hm : m ≤ 9223372036854775807) : icall pr (.fn 38 [] []) [.int .i64 n, .int .i64 m] = some (.int .i64 (wrapI n m)) := by
  refine icall_fn fn38 rfl rfl rfl rfl ?_
  by_cases h1 : m ≤ 0
  · simp [g38_macadamref00_Wrap, g38_macadamref00_Wrap_c, results, rdRess, rdRes, h1, wrapI]
  · have h0 : m ≠ 0 := by omega
    have h2 : n.tmod m < m := Int.tmod_lt_of_pos n (by omega)
    have h3 : -m < n.tmod m := by have := Int.lt_tmod_of_pos n (show 0 < m by omega); omega
    have ht := tmod_wrap n m (by omega)
    have hW : wrapI n m = n % m := by rw [wrapI, if_neg h1]
    rw [hW, ← ht]
    by_cases h4 : n.tmod m < 0
    · have hw : IntKind.wrap .i64 (n.tmod m + m) = n.tmod m + m := wrap_id (by omega) (by omega)
      simp [g38_macadamref00_Wrap, g38_macadamref00_Wrap_c, results, rdRess, rdRes, h1, h0, h4, hw]
    · simp [g38_macadamref00_Wrap, g38_macadamref00_Wrap_c, results, rdRess, rdRes, h1, h0, h4]
def pickI (l : List Int) (n : Int) : Int := if l.length = 0 then 0 else l.getD (wrapI n l.length).toNat 0
theorem c86 (l : List Int) (hl : (l.length : Int) ≤ 9223372036854775807) (n : Int) : icall pr (.fn 86 [] []) [.sl (iv l) .shut, .int .i64 n] = some (.int .i64 (pickI l n)) := by
  refine icall_fn fn86 rfl rfl (by simp) rfl ?_
  have c1 := c38b n l.length hl
  cases hq : l.length with
  | zero =>
    have hq' : (l.length : Int) = 0 := by omega
    simp [g86_macadamref00_Pick, g86_macadamref00_Pick_c, results, rdRess, rdRes, hq, hq', pickI]
  | succ m =>
    have hq' : ¬ (l.length : Int) = 0 := by omega
    have w1 := wrapI_bd n (m := (l.length : Int)) (by omega)
    obtain ⟨k, hk⟩ := toInt w1.1
    rw [hk] at w1 c1
    have hk' : k < l.length := by omega
    have hne : l ≠ [] := by rintro rfl; simp at hq
    have hP : pickI l n = l[k] := by
      rw [pickI, if_neg (by omega), hk]
      simp [hk']
    rw [hP]
    simp [g86_macadamref00_Pick, g86_macadamref00_Pick_c, results, rdRess, rdRes, hne, c1, hk']
/-- what is told instead -/
def Bk.freed (b : Bk) (l : List Int) (f : Nat → Int) : Nat → Bk
  | 0 => b
  | k + 1 => (b.freed l f k).told (l.getD k 0).toNat (f k)
theorem freed_hs (b : Bk) (l f k) : (b.freed l f k).hs = b.hs := by
  induction k with
  | zero => rfl
  | succ k ih => exact ih
theorem freed_lies (b : Bk) (l f k) : (b.freed l f k).l0 = b.l0 ∧ (b.freed l f k).l1 = b.l1 ∧ (b.freed l f k).l2 = b.l2 ∧ (b.freed l f k).l3 = b.l3 := by
  induction k with
  | zero => exact ⟨rfl, rfl, rfl, rfl⟩
  | succ k ih => exact ih
theorem freed_ms (b : Bk) (l f k) : (b.freed l f k).ms.length = b.ms.length := by
  induction k with
  | zero => rfl
  | succ k ih => exact (told_len _ _ _).trans ih
theorem c49 (b : Bk) (hb : b.fit) (hm : b.ms.length ≤ 1000) (l bits : List Int) (hl : ∀ x ∈ l, 0 ≤ x ∧ x < b.ms.length) (hll : (l.length : Int) ≤ 9223372036854775807) (hbl : (bits.length : Int) ≤ 9223372036854775807) :
    icall pr (.fn 49 [] []) [b.v, .sl (iv l) .shut, .sl (iv bits) .shut] = some (b.freed l (fun k => wrapI (pickI bits k) 7) l.length).v := by
  refine icall_fn fn49 rfl rfl (by simp) (by simp) ?_
  generalize hf : (fun k : Nat => wrapI (pickI bits k) 7) = f
  have hfk : ∀ k : Nat, wrapI (pickI bits k) 7 = f k := fun k => by rw [← hf]
  cases hms : b.ms with
  | nil =>
    have hl0 : l = [] := by
      cases l with
      | nil => rfl
      | cons x l => have := hl x (by simp); simp [hms] at this; omega
    subst hl0
    have hi : iv [] = [] := rfl
    have hmv : mvs [] = [] := rfl
    have := appM_nil H.emp 4 32 .shut
    simp [g49_macadamlaw03_freed, g49_macadamlaw03_freed_c, hms, hmv, this]
    simp [r_loop, g49_macadamlaw03_freed_l0, results, rdRess, rdRes, Bk.freed, hms, hmv, oblock]
  | cons m0 ms0 =>
  have hm0 : b.ms.length ≠ 0 := by rw [hms]; simp
  have ha := appM_new (h := H.emp) (sz := 4) (bytes := 32) (new := mvs b.ms) (k2 := .shut) (by simpa using hm0) (mvs_cell4 _) (by simp; omega)
  simp only [mvs_cells, mvs_len, emp_n] at ha
  have hcm := chunk_mc
  simp [g49_macadamlaw03_freed, g49_macadamlaw03_freed_c, ha]
  refine wpr_seq (wpr_oblock (loop_up pr (fun k e h => e 1 = .sl (iv l) .shut ∧ e 2 = .sl (iv bits) .shut ∧ e 8 = .int .i64 k ∧ e 6 = .lbox 0 [.sl [] .exact, .sl [] .exact, .int .i64 0, .int .i64 0, .int .i64 0, .int .i64 0] ∧
      e 7 = .lbox 0 [.sl (hvs b.hs) .shut, .msl 0 0 b.ms.length 4, .int .i64 b.l0, .int .i64 b.l1, .int .i64 b.l2, .int .i64 b.l3] ∧ h.get 0 = some (.cells (iv (mc (b.freed l f k).ms)))) l.length ?_ ?_ 0 _ _ (by omega) ⟨rfl, rfl, rfl, rfl, rfl, rfl⟩))
  · rintro k e h hk ⟨e1, e2, e8, e6, e7, hh⟩
    have hw : IntKind.wrap .i64 ((k : Int) + 1) = k + 1 := wrap_id (by omega) (by omega)
    have c1 := c86 bits hbl k
    have c2 := c38 (pickI bits k) 7 (by omega)
    rw [hfk] at c2
    have hx := hl l[k] (List.getElem_mem hk)
    obtain ⟨x, hx2⟩ := toInt hx.1
    rw [hx2] at hx
    have hxl : x < b.ms.length := by omega
    have hfm := freed_ms b l f k
    have hlen : (mc (b.freed l f k).ms).length = b.ms.length * 4 := by rw [mc_len, hfm]
    have hset := mc_set (b.freed l f k).ms x (f k) (by omega)
    have hsp := splice_iv1 (l := mc (b.freed l f k).ms) (k := x * 4 + 3) (f k) (by omega)
    rw [hset] at hsp
    have hfr : (b.freed l f (k + 1)).ms = toldAt (b.freed l f k).ms x (f k) := by
      simp only [Bk.freed, Bk.told]
      rw [List.getD_eq_getElem?_getD, List.getElem?_eq_getElem hk]
      simp [hx2]
    have hle : x * 4 + 3 + 1 ≤ b.ms.length * 4 := by omega
    simp [g49_macadamlaw03_freed_l0, e1, e2, e6, e7, e8, hk, hw, c1, c2, hx2, hxl, hh, hlen, hle, hsp, hfr]
  · rintro e h ⟨e1, e2, e8, e6, e7, hh⟩
    have hfm := freed_ms b l f l.length
    have hl2 := freed_lies b l f l.length
    have hl3 := freed_hs b l f l.length
    have hcc := chunk_mc (b.freed l f l.length).ms
    rw [hfm] at hcc
    have hlen : (mc (b.freed l f l.length).ms).length = b.ms.length * 4 := by rw [mc_len, hfm]
    simp [g49_macadamlaw03_freed_l0, e1, e2, e6, e7, e8, onB, onN, results, rdRess, rdRes, hh, hcc, hlen, hl2, hl3]
end Av
end

section
/- Contract: mends. -/
set_option linter.unusedSimpArgs false
set_option linter.unusedVariables false
namespace Av
open Go (IntKind BinOp UnOp)
def mend : List Int → Bk → Bool
  | [], b => b.can (inL [])
  | x :: l, b => (List.range 7).any fun n => mend l (b.told x.toNat (n : Nat))
theorem c51 : ∀ (l : List Int) (b : Bk), b.ok = true → (∀ x ∈ l, 0 ≤ x ∧ x < b.ms.length) → l.length ≤ 1000 → icall pr (.fn 51 [] []) [b.v, .sl (iv l) .shut] = some (.bool (mend l b)) := by
  intro l
  induction l with
  | nil =>
    intro b hok _ _
    refine icall_fn fn51 rfl (by simp) (by simp) rfl ?_
    have c1 := c15 b (ok_fit hok)
    rw [hok] at c1
    simp [g51_macadamlaw03_mends, g51_macadamlaw03_mends_c, c1, results, rdRess, rdRes, mend]
  | cons x l ih =>
    intro b hok hl hll
    refine icall_fn fn51 rfl (by simp) (by simp) rfl ?_
    have hlen := ok_len hok
    have hx := hl x (by simp)
    obtain ⟨x, rfl⟩ := toInt hx.1
    have hxl : x < b.ms.length := by omega
    have htk : (iv l).take l.length = iv l := by rw [← iv_len l, List.take_length]
    have hm0 : b.ms.length ≠ 0 := by omega
    have hcl : (mc b.ms).length = b.ms.length * 4 := mc_len _
    have hle : x * 4 + 3 + 1 ≤ b.ms.length * 4 := by omega
    have hrec : ∀ n : Nat, n < 7 → icall pr (.fn 51 [] []) [(b.told x n).v, .sl (iv l) .shut] = some (.bool (mend l (b.told x n))) := fun n hn =>
      ih (b.told x n) (told_ok hok x (by omega)) (fun y hy => by
        have := hl y (by simp [hy])
        simp only [Bk.told, told_len]; exact this) (by simp at hll; omega)
    have hll2 : ((l.length : Int) + 1) ≠ 0 := by omega
    have hmend : mend (x :: l) b = (List.range 7).any fun n => mend l (b.told x (n : Nat)) := by simp [mend]
    rw [hmend]
    simp [g51_macadamlaw03_mends, g51_macadamlaw03_mends_c, hll2]
    refine wpr_seq (wpr_oblock (loop_up pr (fun k e h => e 1 = .sl (iv (x :: l)) .shut ∧ e 2 = b.bx ∧ e 7 = .int .i64 k ∧ ∀ j, j < k → mend l (b.told x j) = false) 7 ?_ ?_ 0 _ _ (by omega) ⟨rfl, rfl, rfl, fun j hj => by omega⟩))
    · rintro k e h hk ⟨e1, e2, e7, hj⟩
      have hw : IntKind.wrap .i64 ((k : Int) + 1) = k + 1 := wrap_id (by omega) (by omega)
      have hk6 : (k : Int) ≤ 6 := by omega
      have ha := appM_new (h := h) (sz := 4) (bytes := 32) (new := mvs b.ms) (k2 := .shut) (by simpa using hm0) (mvs_cell4 _) (by simp; omega)
      simp only [mvs_cells, mvs_len] at ha
      have hsp := splice_iv1 (l := mc b.ms) (k := x * 4 + 3) (k : Int) (by omega)
      rw [mc_set b.ms x k hxl] at hsp
      have hcc := chunk_mc (toldAt b.ms x k)
      rw [told_len] at hcc
      have hcl2 : (mc (toldAt b.ms x k)).length = b.ms.length * 4 := by rw [mc_len, told_len]
      have hr := hrec k (by omega)
      simp only [Bk.v, Bk.told] at hr
      cases hq : mend l (b.told x k) with
      | true =>
        simp only [Bk.told] at hq
        rw [hq] at hr
        have hany : (List.range 7).any (fun n => mend l (b.told x (n : Nat))) = true := List.any_eq_true.2 ⟨k, List.mem_range.2 hk, hq⟩
        simp [g51_macadamlaw03_mends_l0, e1, e2, e7, hk6, hw, ha, hcl, hle, hsp, hcc, hcl2, hxl, htk, hr, onB, onN, results, rdRess, rdRes]
        exact ⟨k, hk, hq⟩
      | false =>
        have hj2 : ∀ j, j < k + 1 → mend l (b.told x j) = false := fun j hj3 => by
          by_cases h1 : j = k
          · rw [h1]; exact hq
          · exact hj j (by omega)
        simp only [Bk.told] at hq
        rw [hq] at hr
        simp [g51_macadamlaw03_mends_l0, e1, e2, e7, hk6, hw, ha, hcl, hle, hsp, hcc, hcl2, hxl, htk, hr, onB, onN, results, rdRess, rdRes]
        exact hj2
    · rintro e h ⟨e1, e2, e7, hj⟩
      have hany : (List.range 7).any (fun n => mend l (b.told x (n : Nat))) = false := by
        rw [List.any_eq_false]
        intro n hn
        rw [hj n (List.mem_range.1 hn)]; simp
      simp [g51_macadamlaw03_mends_l0, e1, e2, e7, onB, onN, results, rdRess, rdRes]
      exact hj
end Av
end

section
/- Books of which less is known. -/
set_option linter.unusedSimpArgs false
set_option linter.unusedVariables false
namespace Av
open Go (IntKind BinOp UnOp)
def onilchk : Option AV → SR
  | some (.ptr b o) => some (.ptr b o, none)
  | some (.cptr cs) => some (.cptr cs, none)
  | _ => none
@[simp] theorem onilchk_p (b o) : onilchk (some (.ptr b o)) = some (.ptr b o, none) := rfl
@[simp] theorem onilchk_c (cs) : onilchk (some (.cptr cs)) = some (.cptr cs, none) := rfl
@[simp] theorem s_nilchk (p : AProg) (e x) : stepP p e (.nilchk x) = onilchk (ev p e x) := by
  rw [stepP]
  cases ev p e x with
  | none => rfl
  | some v => cases v <;> rfl
/-- of x no more is known than of b -/
structure Wider (b x : Bk) : Prop where
  ms : x.ms = b.ms
  len : x.hs.length = b.hs.length
  hs : ∀ (k : Nat) (y z : Hp), b.hs[k]? = some y → x.hs[k]? = some z → z.a = y.a ∧ z.b = y.b ∧ z.c ≤ y.c ∧ y.d ≤ z.d
  lie : ∀ c : Int, 0 ≤ c ∧ c ≤ 3 → b.lie c ≤ x.lie c
theorem lowTo_mono (ms : List Mv) (l : List Int) (h : Int) {p q : Int} (hpq : p ≤ q) (k : Nat) : lowTo ms l h p k ≤ lowTo ms l h q k := by
  induction k with
  | zero => exact hpq
  | succ k ih => simp only [lowTo]; omega
theorem wide_tr {b x : Bk} (hok : b.ok = true) (hw : Wider b x) {bs : Nat → Bool} {l : List Int} (h : Tr b bs l) : Tr x bs l := by
  refine ⟨h.lok, fun j hj => h.nil j (by rw [← hw.ms]; exact hj), fun j hj => ?_, ?_⟩
  · rw [hw.ms] at hj
    have hm : b.ms[j]? = some b.ms[j] := List.getElem?_eq_getElem hj
    have hmo := ok_mv hok hm
    refine (right_iff (m := b.ms[j]) (by rw [hw.ms]; exact hm)).2 ?_
    have := hw.lie b.ms[j].c ⟨hmo.2.2.2.1, hmo.2.2.2.2.1⟩
    rcases (right_iff hm).1 (h.right j hj) with h1 | h1
    · exact .inl h1
    · exact .inr ⟨h1.1, by omega⟩
  · rw [fits_iff]
    intro k z hz
    have hk := (List.getElem?_eq_some_iff.1 hz).1
    rw [hw.len] at hk
    have hy : b.hs[k]? = some b.hs[k] := List.getElem?_eq_getElem hk
    obtain ⟨q1, q2, q3, q4⟩ := hw.hs k _ z hy hz
    have h1 := fits_iff.1 h.fits k _ hy
    simp only [Bk.firstLo, Bk.firstHi, hw.ms] at h1 ⊢
    have h2 := lowTo_mono b.ms l k (p := max z.a (z.c - more b.ms l k b.ms.length)) (q := max b.hs[k].a (b.hs[k].c - more b.ms l k b.ms.length)) (by omega) (b.ms.length + 1)
    omega
theorem wide_can {b x : Bk} (hok : b.ok = true) (hxo : x.ok = true) (hw : Wider b x) {bs : Nat → Bool} (h : b.can bs = true) : x.can bs = true := by
  obtain ⟨l, hl⟩ := (can_iff hok).1 h
  exact (can_iff hxo).2 ⟨l, wide_tr hok hw hl⟩
theorem wide_tell {b x : Bk} (hok : b.ok = true) (hxo : x.ok = true) (hw : Wider b x) (hc : b.c = true) (f : List Int → Int × Int) :
    (tell f x.T).1 ≤ (tell f b.T).1 ∧ (tell f b.T).2 ≤ (tell f x.T).2 := by
  obtain ⟨_, ⟨l, hl, h2⟩, ⟨l', hl', h3⟩⟩ := tell_T hok hc f
  obtain ⟨h1, _, _⟩ := tell_T hxo (wide_can hok hxo hw hc) f
  have g1 := h1 l (wide_tr hok hw hl)
  have g2 := h1 l' (wide_tr hok hw hl')
  omega
theorem wide_liar {b x : Bk} (hok : b.ok = true) (hxo : x.ok = true) (hw : Wider b x) {c : Nat} (hc : c < 4) (h : (c : Int) ∈ x.liarL) : (c : Int) ∈ b.liarL := by
  rw [liar_mem hxo c hc, hw.ms] at h
  rw [liar_mem hok c hc]
  exact fun l hl => h l (wide_tr hok hw hl)
theorem wide_wrong {b x : Bk} (hok : b.ok = true) (hxo : x.ok = true) (hw : Wider b x) {W : List Int} (h : b.wrongO = some W) : ∃ V, x.wrongO = some V ∧ V.length ≤ W.length := by
  obtain ⟨w1, w2, w3, w4⟩ := wrong_spec hok h
  have w5 := wide_can hok hxo hw w2
  have hl : x.ms.length = b.ms.length := by rw [hw.ms]
  cases hV : x.wrongO with
  | none => rw [wrong_none hxo hV W (by rw [hl]; exact w1)] at w5; cases w5
  | some V =>
    refine ⟨V, rfl, ?_⟩
    have := (wrong_spec hxo hV).2.2.2 W (by rw [hl]; exact w1) w5 (by omega)
    rcases Nat.lt_or_ge W.length V.length with h1 | h1
    · simp [fewer, h1, Nat.ne_of_lt h1] at this
    · exact h1
theorem andNot_num : ∀ a : Fin 16, ∀ c : Fin 16, a.val &&& c.val = a.val → IntKind.wrap .i64 ((BitVec.ofInt (IntKind.bits .i64) (a.val : Int) &&& ~~~ BitVec.ofInt (IntKind.bits .i64) (c.val : Int)).toNat : Int) = 0 := by decide +kernel
theorem bin_andNot (a c : Nat) (ha : a < 16) (hc : c < 16) (h : a &&& c = a) : bin .andNot (.int .i64 a) (.int .i64 c) = some (.int .i64 0) := by
  have := andNot_num ⟨a, ha⟩ ⟨c, hc⟩ h
  show some (AV.int .i64 (IntKind.wrap .i64 ((BitVec.ofInt (IntKind.bits .i64) (a : Int) &&& ~~~ BitVec.ofInt (IntKind.bits .i64) (c : Int)).toNat : Int))) = _
  rw [this]
theorem setTo_bits {l : List Int} (h : ∀ x ∈ l, ∃ c : Nat, c < 4 ∧ x = c) : setTo l l.length < 16 := by
  have := setTo_lt2 l 4 l.length fun j hj => by
    rw [List.getD_eq_getElem?_getD, List.getElem?_eq_getElem hj]
    obtain ⟨c, h1, h2⟩ := h l[j] (List.getElem_mem hj)
    simp [h2, h1]
  simpa using this
theorem setTo_mem {l : List Int} (h : ∀ x ∈ l, ∃ c : Nat, c < 4 ∧ x = c) (c : Nat) : (setTo l l.length).testBit c = true ↔ (c : Int) ∈ l := by
  rw [setTo_bit]
  constructor
  · rintro ⟨j, hj, h1⟩
    rw [List.getD_eq_getElem?_getD, List.getElem?_eq_getElem hj] at h1
    obtain ⟨c', h2, h3⟩ := h l[j] (List.getElem_mem hj)
    simp [h3] at h1
    rw [← h1, ← h3]; exact List.getElem_mem hj
  · intro hm
    obtain ⟨j, hj, h1⟩ := List.mem_iff_getElem.1 hm
    exact ⟨j, hj, by rw [List.getD_eq_getElem?_getD, List.getElem?_eq_getElem hj, h1]; simp⟩
theorem setTo_sub {l m : List Int} (hl : ∀ x ∈ l, ∃ c : Nat, c < 4 ∧ x = c) (hm : ∀ x ∈ m, ∃ c : Nat, c < 4 ∧ x = c) (h : ∀ c : Nat, (c : Int) ∈ m → (c : Int) ∈ l) : setTo m m.length &&& setTo l l.length = setTo m m.length := by
  apply Nat.eq_of_testBit_eq
  intro c
  rw [Nat.testBit_and]
  cases hq : (setTo m m.length).testBit c with
  | false => rfl
  | true =>
    rw [(setTo_mem hl c).2 (h c ((setTo_mem hm c).1 hq))]; rfl
/-! a heap's last span, as cells -/
def Hp.last (x : Hp) (c d : Int) : Hp := ⟨x.a, x.b, c, d⟩
theorem hc_get (hs : List Hp) (k : Nat) (x : Hp) (h : hs[k]? = some x) : (hc hs).getD (k * 4 + 2) 0 = x.c ∧ (hc hs).getD (k * 4 + 3) 0 = x.d := by
  induction hs generalizing k with
  | nil => simp at h
  | cons m ms ih =>
    have h1 : hc (m :: ms) = m.a :: m.b :: m.c :: m.d :: hc ms := rfl
    cases k with
    | zero => simp at h; subst h; rw [h1]; exact ⟨rfl, rfl⟩
    | succ k =>
      rw [h1, show (k + 1) * 4 + 2 = k * 4 + 2 + 1 + 1 + 1 + 1 by omega, show (k + 1) * 4 + 3 = k * 4 + 3 + 1 + 1 + 1 + 1 by omega]
      simp only [List.getD_cons_succ]
      exact ih k (by simpa using h)
theorem hc_set (hs : List Hp) (k : Nat) (x : Hp) (h : hs[k]? = some x) (v : Int) : (hc hs).set (k * 4 + 2) v = hc (hs.set k (x.last v x.d)) ∧ (hc hs).set (k * 4 + 3) v = hc (hs.set k (x.last x.c v)) := by
  induction hs generalizing k with
  | nil => simp at h
  | cons m ms ih =>
    have h1 : hc (m :: ms) = m.a :: m.b :: m.c :: m.d :: hc ms := rfl
    cases k with
    | zero => simp at h; subst h; rw [h1]; exact ⟨rfl, rfl⟩
    | succ k =>
      rw [h1, show (k + 1) * 4 + 2 = k * 4 + 2 + 1 + 1 + 1 + 1 by omega, show (k + 1) * 4 + 3 = k * 4 + 3 + 1 + 1 + 1 + 1 by omega]
      simp only [List.set_cons_succ, (ih k (by simpa using h)).1, (ih k (by simpa using h)).2]
      exact ⟨rfl, rfl⟩
def Bk.hset (b : Bk) (k : Nat) (z : Hp) : Bk := ⟨b.hs.set k z, b.ms, b.l0, b.l1, b.l2, b.l3⟩
theorem hset_ok {b : Bk} (h : b.ok = true) (k : Nat) {z : Hp} (hz : z.ok = true) : (b.hset k z).ok = true := by
  simp only [Bk.ok, Bool.and_eq_true] at h
  simp only [Bk.ok, Bool.and_eq_true, Bk.hset, List.length_set]
  refine ⟨⟨⟨h.1.1.1, ?_⟩, h.1.2⟩, h.2⟩
  have h2 := List.all_eq_true.1 h.1.1.2
  rw [List.all_eq_true]
  intro m hm
  rcases List.mem_or_eq_of_mem_set hm with h3 | h3
  · exact h2 m h3
  · rw [h3]; exact hz
theorem hset_wide {b : Bk} {k : Nat} {y : Hp} (hy : b.hs[k]? = some y) {c d : Int} (hc : c ≤ y.c) (hd : y.d ≤ d) : Wider b (b.hset k (y.last c d)) := by
  refine ⟨rfl, by simp [Bk.hset], fun j p q hp hq => ?_, fun _ _ => Int.le_refl _⟩
  simp only [Bk.hset] at hq
  by_cases hj : j = k
  · subst hj
    rw [hy] at hp; cases hp
    rw [List.getElem?_set_self (List.getElem?_eq_some_iff.1 hy).1] at hq
    cases hq
    exact ⟨rfl, rfl, hc, hd⟩
  · rw [List.getElem?_set_ne (Ne.symm hj)] at hq
    rw [hp] at hq; cases hq
    exact ⟨rfl, rfl, Int.le_refl _, Int.le_refl _⟩
theorem lset_wide {b : Bk} {k : Nat} (hk : k < 4) {v : Int} (hv : b.lie k ≤ v) : Wider b (b.lset k v) := by
  refine ⟨lset_ms b k v, by rw [lset_hs], fun j p q hp hq => ?_, fun c hc => ?_⟩
  · rw [lset_hs] at hq
    rw [hp] at hq; cases hq
    exact ⟨rfl, rfl, Int.le_refl _, Int.le_refl _⟩
  · rw [lset_lie b k v c hk hc]
    split
    · rename_i h; rw [h]; exact hv
    · exact Int.le_refl _
end Av
end

section
/- Books that are laid in memory; what is answered of books that are not valid. -/
set_option linter.unusedSimpArgs false
set_option linter.unusedVariables false
namespace Av
open Go (IntKind BinOp UnOp)
abbrev exA (h : H) : AV := .agg [.msl h.n 0 2 4, .sl (mvs (exB 4 6).ms) .exact, .int .i64 1, .int .i64 2, .int .i64 0, .int .i64 0]
abbrev exC (h : H) : AV := .agg [.sl (hvs (exB 4 6).hs) .exact, .msl h.n 0 4 4, .int .i64 1, .int .i64 2, .int .i64 0, .int .i64 0]
theorem d1089 (h : H) : dcall pr (.fn 1089 [] []) [.agg [.int .i64 4, .int .i64 6]] h = some (exA h, h.new (.cells (iv (hc (exB 4 6).hs)))) := by
  obtain ⟨v, h', h1, rfl, rfl⟩ := dcall_of (p := pr) (k := 1089) (first := []) (cap := []) (args := [.agg [.int .i64 4, .int .i64 6]]) (h := h) (Q := fun v h' => v = exA h ∧ h' = h.new (.cells (iv (hc (exB 4 6).hs)))) fn1089 rfl (by
    simp [g1089_macadamlaw03_book, g1089_macadamlaw03_book_c, results, rdRess, rdRes, c44, c41, c101, exB, hc, mc, mvs, List.replicate])
  exact h1
theorem d1052 (h : H) : dcall pr (.fn 1052 [] []) [] h = some (exA h, h.new (.cells (iv (hc (exB 4 6).hs)))) := by
  obtain ⟨v, h', h1, rfl, rfl⟩ := dcall_of (p := pr) (k := 1052) (first := []) (cap := []) (args := []) (h := h) (Q := fun v h' => v = exA h ∧ h' = h.new (.cells (iv (hc (exB 4 6).hs)))) fn1052 rfl (by
    simp [g1052_macadamlaw03_own, g1052_macadamlaw03_own_c, results, rdRess, rdRes, c44, d1089])
  exact h1
theorem d2089 (h : H) : dcall pr (.fn 2089 [] []) [.agg [.int .i64 4, .int .i64 6]] h = some (exC h, h.new (.cells (iv (mc (exB 4 6).ms)))) := by
  obtain ⟨v, h', h1, rfl, rfl⟩ := dcall_of (p := pr) (k := 2089) (first := []) (cap := []) (args := [.agg [.int .i64 4, .int .i64 6]]) (h := h) (Q := fun v h' => v = exC h ∧ h' = h.new (.cells (iv (mc (exB 4 6).ms)))) fn2089 rfl (by
    simp [g2089_macadamlaw03_book, g2089_macadamlaw03_book_c, results, rdRess, rdRes, c44, c41, c101, exB, hc, mc, hvs, List.replicate])
  exact h1
theorem d2052 (h : H) : dcall pr (.fn 2052 [] []) [] h = some (exC h, h.new (.cells (iv (mc (exB 4 6).ms)))) := by
  obtain ⟨v, h', h1, rfl, rfl⟩ := dcall_of (p := pr) (k := 2052) (first := []) (cap := []) (args := []) (h := h) (Q := fun v h' => v = exC h ∧ h' = h.new (.cells (iv (mc (exB 4 6).ms)))) fn2052 rfl (by
    simp [g2052_macadamlaw03_own, g2052_macadamlaw03_own_c, results, rdRess, rdRes, c44, d2089])
  exact h1
theorem bad_all {X : Bk} (hx : X.ok = false) : (X.ok && X.can (inL [])) = false ∧ (∀ k, X.yards k = ((0, 0), 30)) ∧ (∀ h k, X.heap h k = ((0, 0), 30)) ∧ X.laid = ((0, 0), 30) ∧ (∀ c r, X.owed c r = ((0, 0), 30)) ∧
    (∀ k n, X.fitsQ k n = (false, 30)) ∧ X.liars = ([], 30) ∧ X.wrong = ([], 30) := by
  refine ⟨by simp [hx], fun k => ?_, fun h k => ?_, ?_, fun c r => ?_, fun k n => ?_, ?_, ?_⟩ <;> simp [Bk.yards, Bk.heap, Bk.laid, Bk.owed, Bk.fitsQ, Bk.liars, Bk.wrong, ans, askE, hx]
/-- a round over a book that is not valid -/
theorem l14_step (X : Bk) (hX : X.fit) (hx : X.ok = false) (k : Nat) (hk : k < 13) (BC vs : List AV) (hBC : BC.length = 78) (hp : part BC (k * 6) 6 true = some (.agg vs)) (h h' : H) (hn : 12 < h.n) (hg : h.get 12 = some (.cells BC)) (hg' : h'.get 12 = some (.cells BC))
    (hz : fzH h (fzids vs) = h') (hz2 : fzH h' (fzids vs) = h') (hv : AV.shuts (fzvs h' vs) = [.sl (hvs X.hs) .shut, .sl (mvs X.ms) .shut, .int .i64 X.l0, .int .i64 X.l1, .int .i64 X.l2, .int .i64 X.l3])
    (e : Env) (e1 : e 1 = .msl 12 0 13 6) (e2 : e 2 = .int .i64 k) :
    wpr (den pr g14_macadamlaw03_StoneKnown_l0 e h) fun o e' h'' => o = .normal ∧ h'' = h' ∧ e' 1 = .msl 12 0 13 6 ∧ e' 2 = .int .i64 (k + 1) := by
  obtain ⟨b1, b2, b3, b4, b5, b6, b7, b8⟩ := bad_all hx
  have a1 := c15 X hX
  have a2 := c19 X hX (-1)
  have a3 := c21 X hX (-1) 0
  have a4 := c24 X hX
  have a5 := c26 X hX (-1) 0
  have a6 := c31 X hX (-1) 0
  have a7 := c28 X hX
  have a8 := c33 X hX
  have a9 := c17 X hX
  rw [b1, hx] at a1
  rw [b2] at a2
  rw [b3] at a3
  rw [b4] at a4
  rw [b5] at a5
  rw [b6] at a6
  rw [b7] at a7
  rw [b8] at a8
  rw [hx] at a9
  simp only [spanV, iv_nil, if_false, Bool.false_eq_true] at a1 a2 a3 a4 a5 a6 a7 a8 a9
  have hw : IntKind.wrap .i64 ((k : Int) + 1) = k + 1 := wrap_id (by omega) (by omega)
  have hk' : (k : Int) < 13 := by omega
  simp [-fzH_s, g14_macadamlaw03_StoneKnown_l0, e1, e2, hk', hg, hg', hp, hz, hz2, hv, a1, a2, a3, a4, a5, a6, a7, a8, a9, hw]
theorem fz_nil (h : H) : fzH h [] = h := rfl
/-- two slices of memory come to stay -/
theorem fz_two (h : H) (i j : Nat) (ci cj : List AV) (hij : i ≠ j) (hi : h.get i = some (.cells ci) ∨ h.get i = some (.frz ci)) (hj : h.get j = some (.cells cj) ∨ h.get j = some (.frz cj)) :
    ∃ h', fzH h [i, j] = h' ∧ fzH h' [i, j] = h' ∧ h'.n = h.n ∧ h'.get i = some (.frz ci) ∧ h'.get j = some (.frz cj) ∧ ∀ m, m ≠ i → m ≠ j → h'.get m = h.get m := by
  have hji : j ≠ i := Ne.symm hij
  rcases hi with hi | hi <;> rcases hj with hj | hj
  · exact ⟨(h.put i (.frz ci)).put j (.frz cj), by simp [hi, hj, hji], by simp [hij, hji], by simp, by simp [hij], by simp, fun m h1 h2 => by simp [h1, h2]⟩
  · exact ⟨h.put i (.frz ci), by simp [hi, hj, hji], by simp [hj, hji], by simp, by simp, by simp [hj, hji], fun m h1 h2 => by simp [h1]⟩
  · exact ⟨h.put j (.frz cj), by simp [hi, hj], by simp [hi, hij], by simp, by simp [hi, hij], by simp, fun m h1 h2 => by simp [h2]⟩
  · exact ⟨h, by simp [hi, hj], by simp [hi, hj], rfl, hi, hj, fun m h1 h2 => rfl⟩
/-- one slice of memory comes to stay -/
theorem fz_one (h : H) (i : Nat) (ci : List AV) (hi : h.get i = some (.cells ci) ∨ h.get i = some (.frz ci)) :
    ∃ h', fzH h [i] = h' ∧ fzH h' [i] = h' ∧ h'.n = h.n ∧ h'.get i = some (.frz ci) ∧ ∀ m, m ≠ i → h'.get m = h.get m := by
  rcases hi with hi | hi
  · exact ⟨h.put i (.frz ci), by simp [hi], by simp, by simp, by simp, fun m h1 => by simp [h1]⟩
  · exact ⟨h, by simp [hi], by simp [hi], rfl, hi, fun m h1 => rfl⟩
end Av
end

section
/- The books that are not valid, one after another. -/
set_option linter.unusedSimpArgs false
set_option linter.unusedVariables false
namespace Av
open Go (IntKind BinOp UnOp)
/-- the books that are not valid -/
def badB : Nat → Bk
  | 0 => ⟨[], [], 0, 0, 0, 0⟩
  | 1 => ⟨[⟨10, 12, 2, 3⟩, ⟨5, 5, 4, 6⟩, ⟨0, 0, 0, 0⟩, ⟨0, 0, 0, 0⟩, ⟨0, 0, 0, 0⟩], [⟨-1, 0, 0, 4⟩, ⟨0, 1, 1, 6⟩, ⟨0, -1, 1, 5⟩, ⟨1, -1, 0, 6⟩], 1, 2, 0, 0⟩
  | 2 => ⟨[⟨10, 15, 2, 3⟩, ⟨5, 5, 4, 6⟩], [⟨-1, 0, 0, 4⟩, ⟨0, 1, 1, 6⟩, ⟨0, -1, 1, 5⟩, ⟨1, -1, 0, 6⟩], 1, 2, 0, 0⟩
  | 3 => ⟨[⟨61, 61, 2, 3⟩, ⟨5, 5, 4, 6⟩], [⟨-1, 0, 0, 4⟩, ⟨0, 1, 1, 6⟩, ⟨0, -1, 1, 5⟩, ⟨1, -1, 0, 6⟩], 1, 2, 0, 0⟩
  | 4 => ⟨[⟨10, 12, 0, 100⟩, ⟨5, 5, 4, 6⟩], [⟨-1, 0, 0, 4⟩, ⟨0, 1, 1, 6⟩, ⟨0, -1, 1, 5⟩, ⟨1, -1, 0, 6⟩], 1, 2, 0, 0⟩
  | 5 => ⟨[⟨10, 12, 3, 2⟩, ⟨5, 5, 4, 6⟩], [⟨-1, 0, 0, 4⟩, ⟨0, 1, 1, 6⟩, ⟨0, -1, 1, 5⟩, ⟨1, -1, 0, 6⟩], 1, 2, 0, 0⟩
  | 6 => ⟨[⟨10, 12, 2, 3⟩, ⟨5, 5, 4, 6⟩], [⟨2, 0, 0, 4⟩, ⟨0, 1, 1, 6⟩, ⟨0, -1, 1, 5⟩, ⟨1, -1, 0, 6⟩], 1, 2, 0, 0⟩
  | 7 => ⟨[⟨10, 12, 2, 3⟩, ⟨5, 5, 4, 6⟩], [⟨0, 0, 0, 4⟩, ⟨0, 1, 1, 6⟩, ⟨0, -1, 1, 5⟩, ⟨1, -1, 0, 6⟩], 1, 2, 0, 0⟩
  | 8 => ⟨[⟨10, 12, 2, 3⟩, ⟨5, 5, 4, 6⟩], [⟨-1, 0, 0, 4⟩, ⟨0, 1, 4, 6⟩, ⟨0, -1, 1, 5⟩, ⟨1, -1, 0, 6⟩], 1, 2, 0, 0⟩
  | 9 => ⟨[⟨10, 12, 2, 3⟩, ⟨5, 5, 4, 6⟩], [⟨-1, 0, 0, 4⟩, ⟨0, 1, 1, 7⟩, ⟨0, -1, 1, 5⟩, ⟨1, -1, 0, 6⟩], 1, 2, 0, 0⟩
  | 10 => ⟨[⟨10, 12, 2, 3⟩, ⟨5, 5, 4, 6⟩], [⟨-1, 0, 0, 4⟩, ⟨0, 1, 1, 6⟩, ⟨0, -1, 1, 5⟩, ⟨1, -1, 0, 6⟩], 3, 2, 0, 0⟩
  | 11 => ⟨[⟨10, 12, 2, 3⟩, ⟨5, 5, 4, 6⟩], [⟨0, 0, 0, 0⟩, ⟨0, 0, 0, 0⟩, ⟨0, 0, 0, 0⟩, ⟨0, 0, 0, 0⟩, ⟨0, 0, 0, 0⟩, ⟨0, 0, 0, 0⟩], 1, 2, 0, 0⟩
  | 12 => ⟨[⟨10, 12, 2, 3⟩, ⟨5, 5, 4, 6⟩], [⟨-1, 0, 0, 4⟩, ⟨0, 1, 1, 6⟩, ⟨0, -2, 1, 5⟩, ⟨1, -1, 0, 6⟩], 1, 2, 0, 0⟩
  | _ => ⟨[], [], 0, 0, 0, 0⟩
/-- their memory -/
def badC : Nat → List Int
  | 1 => [10, 15, 2, 3, 5, 5, 4, 6]
  | 2 => [61, 61, 2, 3, 5, 5, 4, 6]
  | 3 => [10, 12, 0, 100, 5, 5, 4, 6]
  | 4 => [10, 12, 3, 2, 5, 5, 4, 6]
  | 5 => [2, 0, 0, 4, 0, 1, 1, 6, 0, -1, 1, 5, 1, -1, 0, 6]
  | 6 => [0, 0, 0, 4, 0, 1, 1, 6, 0, -1, 1, 5, 1, -1, 0, 6]
  | 7 => [-1, 0, 0, 4, 0, 1, 4, 6, 0, -1, 1, 5, 1, -1, 0, 6]
  | 8 => [-1, 0, 0, 4, 0, 1, 1, 7, 0, -1, 1, 5, 1, -1, 0, 6]
  | 9 => [10, 12, 2, 3, 5, 5, 4, 6]
  | 10 => [10, 12, 2, 3, 5, 5, 4, 6]
  | 11 => [-1, 0, 0, 4, 0, 1, 1, 6, 0, -2, 1, 5, 1, -1, 0, 6]
  | 13 => [10, 12, 2, 3, 5, 5, 4, 6, 0, 0, 0, 0, 0, 0, 0, 0, 0, 0, 0, 0]
  | 14 => [0, 0, 0, 0, 0, 0, 0, 0, 0, 0, 0, 0, 0, 0, 0, 0, 0, 0, 0, 0, 0, 0, 0, 0]
  | _ => []
def badL : List AV := [.sl [] .shut, .sl [] .shut, .int .i64 0, .int .i64 0, .int .i64 0, .int .i64 0, .msl 13 0 5 4, .sl (mvs (exB 4 6).ms) .shut, .int .i64 1, .int .i64 2, .int .i64 0, .int .i64 0, .msl 1 0 2 4, .sl (mvs (exB 4 6).ms) .shut, .int .i64 1, .int .i64 2, .int .i64 0, .int .i64 0, .msl 2 0 2 4, .sl (mvs (exB 4 6).ms) .shut, .int .i64 1, .int .i64 2, .int .i64 0, .int .i64 0, .msl 3 0 2 4, .sl (mvs (exB 4 6).ms) .shut, .int .i64 1, .int .i64 2, .int .i64 0, .int .i64 0, .msl 4 0 2 4, .sl (mvs (exB 4 6).ms) .shut, .int .i64 1, .int .i64 2, .int .i64 0, .int .i64 0, .sl (hvs (exB 4 6).hs) .shut, .msl 5 0 4 4, .int .i64 1, .int .i64 2, .int .i64 0, .int .i64 0, .sl (hvs (exB 4 6).hs) .shut, .msl 6 0 4 4, .int .i64 1, .int .i64 2, .int .i64 0, .int .i64 0, .sl (hvs (exB 4 6).hs) .shut, .msl 7 0 4 4, .int .i64 1, .int .i64 2, .int .i64 0, .int .i64 0, .sl (hvs (exB 4 6).hs) .shut, .msl 8 0 4 4, .int .i64 1, .int .i64 2, .int .i64 0, .int .i64 0, .msl 9 0 2 4, .sl (mvs (exB 4 6).ms) .shut, .int .i64 3, .int .i64 2, .int .i64 0, .int .i64 0, .msl 10 0 2 4, .msl 14 0 6 4, .int .i64 1, .int .i64 2, .int .i64 0, .int .i64 0, .sl (hvs (exB 4 6).hs) .shut, .msl 11 0 4 4, .int .i64 1, .int .i64 2, .int .i64 0, .int .i64 0]
/-- what lies in memory -/
def badI (h : H) : Prop := 12 < h.n ∧ h.get 12 = some (.cells badL) ∧ ∀ j, 1 ≤ j → j < 15 → j ≠ 12 → h.get j = some (.cells (iv (badC j))) ∨ h.get j = some (.frz (iv (badC j)))
abbrev inMem (j : Nat) : Prop := 1 ≤ j ∧ j < 15 ∧ j ≠ 12
theorem badI_next {h h' : H} (hb : badI h) {i j : Nat} (hi : inMem i) (hj : inMem j) (hn : h'.n = h.n) (h1 : h'.get i = some (.frz (iv (badC i)))) (h2 : h'.get j = some (.frz (iv (badC j)))) (h3 : ∀ m, m ≠ i → m ≠ j → h'.get m = h.get m) : badI h' := by
  obtain ⟨b1, b2, b3⟩ := hb
  refine ⟨by omega, by rw [h3 12 (Ne.symm hi.2.2) (Ne.symm hj.2.2)]; exact b2, fun m m1 m2 m3 => ?_⟩
  by_cases q1 : m = i
  · subst q1; exact .inr h1
  by_cases q2 : m = j
  · subst q2; exact .inr h2
  rw [h3 m q1 q2]; exact b3 m m1 m2 m3
/-- heaps in memory -/
theorem l14_H (X : Bk) (hX : X.fit) (hx : X.ok = false) (k : Nat) (hk : k < 13) (i a : Nat) (hi : inMem i) (h : H) (hb : badI h) (hp : part badL (k * 6) 6 true = some (.agg [.msl i 0 a 4, .sl (mvs X.ms) .shut, .int .i64 X.l0, .int .i64 X.l1, .int .i64 X.l2, .int .i64 X.l3])) (hca : a * 4 ≤ (badC i).length)
    (hxa : chunk 4 a (iv (badC i)) = hvs X.hs) (e : Env) (e1 : e 1 = .msl 12 0 13 6) (e2 : e 2 = .int .i64 k) : wpr (den pr g14_macadamlaw03_StoneKnown_l0 e h) fun o e' h'' => o = .normal ∧ badI h'' ∧ e' 1 = .msl 12 0 13 6 ∧ e' 2 = .int .i64 (k + 1) := by
  obtain ⟨h', z1, z2, z3, z4, z6⟩ := fz_one h i (iv (badC i)) (hb.2.2 i hi.1 hi.2.1 hi.2.2)
  have hids : fzids [.msl i 0 a 4, .sl (mvs X.ms) .shut, .int .i64 X.l0, .int .i64 X.l1, .int .i64 X.l2, .int .i64 X.l3] = [i] := by simp
  refine wpr_mono (l14_step X hX hx k hk badL _ rfl hp h h' hb.1 hb.2.1 (by rw [z6 12 (Ne.symm hi.2.2)]; exact hb.2.1) (by rw [hids]; exact z1) (by rw [hids]; exact z2) (by simp [z4, hca, hxa]) e e1 e2) ?_
  rintro o e' h'' ⟨rfl, rfl, q1, q2⟩
  exact ⟨rfl, badI_next hb hi hi z3 z4 z4 (fun m h1 _ => z6 m h1), q1, q2⟩
/-- loads in memory -/
theorem l14_M (X : Bk) (hX : X.fit) (hx : X.ok = false) (k : Nat) (hk : k < 13) (i a : Nat) (hi : inMem i) (h : H) (hb : badI h) (hp : part badL (k * 6) 6 true = some (.agg [.sl (hvs X.hs) .shut, .msl i 0 a 4, .int .i64 X.l0, .int .i64 X.l1, .int .i64 X.l2, .int .i64 X.l3])) (hca : a * 4 ≤ (badC i).length)
    (hxa : chunk 4 a (iv (badC i)) = mvs X.ms) (e : Env) (e1 : e 1 = .msl 12 0 13 6) (e2 : e 2 = .int .i64 k) : wpr (den pr g14_macadamlaw03_StoneKnown_l0 e h) fun o e' h'' => o = .normal ∧ badI h'' ∧ e' 1 = .msl 12 0 13 6 ∧ e' 2 = .int .i64 (k + 1) := by
  obtain ⟨h', z1, z2, z3, z4, z6⟩ := fz_one h i (iv (badC i)) (hb.2.2 i hi.1 hi.2.1 hi.2.2)
  have hids : fzids [.sl (hvs X.hs) .shut, .msl i 0 a 4, .int .i64 X.l0, .int .i64 X.l1, .int .i64 X.l2, .int .i64 X.l3] = [i] := by simp
  refine wpr_mono (l14_step X hX hx k hk badL _ rfl hp h h' hb.1 hb.2.1 (by rw [z6 12 (Ne.symm hi.2.2)]; exact hb.2.1) (by rw [hids]; exact z1) (by rw [hids]; exact z2) (by simp [z4, hca, hxa]) e e1 e2) ?_
  rintro o e' h'' ⟨rfl, rfl, q1, q2⟩
  exact ⟨rfl, badI_next hb hi hi z3 z4 z4 (fun m h1 _ => z6 m h1), q1, q2⟩
/-- both in memory -/
theorem l14_B (X : Bk) (hX : X.fit) (hx : X.ok = false) (k : Nat) (hk : k < 13) (i a j b : Nat) (hij : i ≠ j) (hi : inMem i) (hj : inMem j) (h : H) (hb : badI h) (hp : part badL (k * 6) 6 true = some (.agg [.msl i 0 a 4, .msl j 0 b 4, .int .i64 X.l0, .int .i64 X.l1, .int .i64 X.l2, .int .i64 X.l3])) (hca : a * 4 ≤ (badC i).length)
    (hcb : b * 4 ≤ (badC j).length) (hxa : chunk 4 a (iv (badC i)) = hvs X.hs) (hxb : chunk 4 b (iv (badC j)) = mvs X.ms) (e : Env) (e1 : e 1 = .msl 12 0 13 6) (e2 : e 2 = .int .i64 k) : wpr (den pr g14_macadamlaw03_StoneKnown_l0 e h) fun o e' h'' => o = .normal ∧ badI h'' ∧ e' 1 = .msl 12 0 13 6 ∧ e' 2 = .int .i64 (k + 1) := by
  obtain ⟨h', z1, z2, z3, z4, z5, z6⟩ := fz_two h i j (iv (badC i)) (iv (badC j)) hij (hb.2.2 i hi.1 hi.2.1 hi.2.2) (hb.2.2 j hj.1 hj.2.1 hj.2.2)
  have hids : fzids [.msl i 0 a 4, .msl j 0 b 4, .int .i64 X.l0, .int .i64 X.l1, .int .i64 X.l2, .int .i64 X.l3] = [i, j] := by simp
  refine wpr_mono (l14_step X hX hx k hk badL _ rfl hp h h' hb.1 hb.2.1 (by rw [z6 12 (Ne.symm hi.2.2) (Ne.symm hj.2.2)]; exact hb.2.1) (by rw [hids]; exact z1) (by rw [hids]; exact z2) (by simp [z4, z5, hca, hcb, hxa, hxb]) e e1 e2) ?_
  rintro o e' h'' ⟨rfl, rfl, q1, q2⟩
  exact ⟨rfl, badI_next hb hi hj z3 z4 z5 z6, q1, q2⟩
theorem l14_0 (e : Env) (h : H) (hb : badI h) (e1 : e 1 = .msl 12 0 13 6) (e2 : e 2 = .int .i64 0) : wpr (den pr (.loop g14_macadamlaw03_StoneKnown_l0) e h) fun o e' h' => o = .exit 0 := by
  refine loop_up pr (fun k e' h' => badI h' ∧ e' 1 = .msl 12 0 13 6 ∧ e' 2 = .int .i64 k) 13 ?_ ?_ 0 e h (by omega) ⟨hb, e1, e2⟩
  · rintro k e h hk ⟨hb, e1, e2⟩
    refine wpr_mono (Q := fun o e' h'' => o = .normal ∧ badI h'' ∧ e' 1 = .msl 12 0 13 6 ∧ e' 2 = .int .i64 (k + 1)) ?_ fun o e' h' ⟨q0, q1, q2, q3⟩ => .inl ⟨q0, q1, q2, by rw [q3]; rfl⟩
    rcases (show k = 0 ∨ k = 1 ∨ k = 2 ∨ k = 3 ∨ k = 4 ∨ k = 5 ∨ k = 6 ∨ k = 7 ∨ k = 8 ∨ k = 9 ∨ k = 10 ∨ k = 11 ∨ k = 12 by omega) with rfl | rfl | rfl | rfl | rfl | rfl | rfl | rfl | rfl | rfl | rfl | rfl | rfl
    · refine wpr_mono (l14_step (badB 0) (by constructor <;> simp [badB]) (by decide +kernel) 0 hk badL [.sl [] .shut, .sl [] .shut, .int .i64 0, .int .i64 0, .int .i64 0, .int .i64 0] rfl rfl h h hb.1 hb.2.1 hb.2.1 rfl rfl rfl e e1 e2) ?_
      rintro o e' h' ⟨rfl, rfl, q1, q2⟩
      exact ⟨rfl, hb, q1, q2⟩
    · exact l14_H (badB 1) (by constructor <;> simp [badB]) (by decide +kernel) 1 hk 13 5 (by decide) h hb rfl (by decide) rfl e e1 e2
    · exact l14_H (badB 2) (by constructor <;> simp [badB]) (by decide +kernel) 2 hk 1 2 (by decide) h hb rfl (by decide) rfl e e1 e2
    · exact l14_H (badB 3) (by constructor <;> simp [badB]) (by decide +kernel) 3 hk 2 2 (by decide) h hb rfl (by decide) rfl e e1 e2
    · exact l14_H (badB 4) (by constructor <;> simp [badB]) (by decide +kernel) 4 hk 3 2 (by decide) h hb rfl (by decide) rfl e e1 e2
    · exact l14_H (badB 5) (by constructor <;> simp [badB]) (by decide +kernel) 5 hk 4 2 (by decide) h hb rfl (by decide) rfl e e1 e2
    · exact l14_M (badB 6) (by constructor <;> simp [badB]) (by decide +kernel) 6 hk 5 4 (by decide) h hb rfl (by decide) rfl e e1 e2
    · exact l14_M (badB 7) (by constructor <;> simp [badB]) (by decide +kernel) 7 hk 6 4 (by decide) h hb rfl (by decide) rfl e e1 e2
    · exact l14_M (badB 8) (by constructor <;> simp [badB]) (by decide +kernel) 8 hk 7 4 (by decide) h hb rfl (by decide) rfl e e1 e2
    · exact l14_M (badB 9) (by constructor <;> simp [badB]) (by decide +kernel) 9 hk 8 4 (by decide) h hb rfl (by decide) rfl e e1 e2
    · exact l14_H (badB 10) (by constructor <;> simp [badB]) (by decide +kernel) 10 hk 9 2 (by decide) h hb rfl (by decide) rfl e e1 e2
    · exact l14_B (badB 11) (by constructor <;> simp [badB]) (by decide +kernel) 11 hk 10 2 14 6 (by omega) (by decide) (by decide) h hb rfl (by decide) (by decide) rfl rfl e e1 e2
    · exact l14_M (badB 12) (by constructor <;> simp [badB]) (by decide +kernel) 12 hk 11 4 (by decide) h hb rfl (by decide) rfl e e1 e2
  · rintro e h ⟨hb, e1, e2⟩
    simp [g14_macadamlaw03_StoneKnown_l0, e1, e2]
end Av
end

section
/- The law of single books. -/
set_option linter.unusedSimpArgs false
set_option linter.unusedVariables false
namespace Av
open Go (IntKind BinOp UnOp)
def Q14 (o : Out) (e : Env) (h : H) : Prop := (o = .normal ∨ o = .ret) ∧ e 0 = .bool true
/-- all books' memory -/
def exO (k : Nat) : List Int := if k = 5 ∨ k = 6 ∨ k = 7 ∨ k = 8 ∨ k = 11 then mc (exB 4 6).ms else hc (exB 4 6).hs
def exN : Nat → H
  | 0 => H.emp
  | k + 1 => (exN k).new (.cells (iv (exO k)))
theorem exN_n (k : Nat) : (exN k).n = k := by
  induction k with
  | zero => rfl
  | succ k ih => simp [exN, ih]
theorem exN_get (k j : Nat) (hj : j < k) : (exN k).get j = some (.cells (iv (exO j))) := by
  induction k with
  | zero => omega
  | succ k ih =>
    have hn := exN_n k
    by_cases h1 : j = k
    · simp [exN, hn, h1]
    · simp [exN, hn, h1]
      exact ih (by omega)
theorem d1052' (k : Nat) (hk : ¬ (k = 5 ∨ k = 6 ∨ k = 7 ∨ k = 8 ∨ k = 11)) : dcall pr (.fn 1052 [] []) [] (exN k) = some (.agg [.msl k 0 2 4, .sl (mvs (exB 4 6).ms) .exact, .int .i64 1, .int .i64 2, .int .i64 0, .int .i64 0], exN (k + 1)) := by
  rw [d1052, exA, exN_n, exN, exO, if_neg hk]
theorem d2052' (k : Nat) (hk : k = 5 ∨ k = 6 ∨ k = 7 ∨ k = 8 ∨ k = 11) : dcall pr (.fn 2052 [] []) [] (exN k) = some (.agg [.sl (hvs (exB 4 6).hs) .exact, .msl k 0 4 4, .int .i64 1, .int .i64 2, .int .i64 0, .int .i64 0], exN (k + 1)) := by
  rw [d2052, exC, exN_n, exN, exO, if_pos hk]
theorem exB_hs : (exB 4 6).hs = [⟨10, 12, 2, 3⟩, ⟨5, 5, 4, 6⟩] := rfl
theorem exB_ms : (exB 4 6).ms = [⟨-1, 0, 0, 4⟩, ⟨0, 1, 1, 6⟩, ⟨0, -1, 1, 5⟩, ⟨1, -1, 0, 6⟩] := rfl
theorem none_wrong : (Bk.mk [⟨0, 0, 1, 1⟩] [] 0 0 0 0).wrong = ([], 32) := by decide +kernel
theorem l14_3 (e : Env) (h : H) : wpr (den pr g14_macadamlaw03_StoneKnown_r3 e h) Q14 := by
  have a1 := c19 (exB 6 6) (ex_fit _ _) 3
  have a2 := c21 (exB 4 6) (ex_fit _ _) 0 0
  have a3 := c21 (exB 4 6) (ex_fit _ _) 1 4
  have a4 := c26 (exB 4 6) (ex_fit _ _) 0 1
  have a5 := c31 (exB 4 6) (ex_fit _ _) 1 4
  have a6 := c31 (exB 4 6) (ex_fit _ _) 2 3
  have a7 := c28 (exB 4 6) (ex_fit _ _)
  have a8 := c15 (exB 9 9) (ex_fit _ _)
  have a9 := c33 (exB 4 6) (ex_fit _ _)
  have a10 := c33 (Bk.mk [⟨0, 0, 1, 1⟩] [] 0 0 0 0) (by constructor <;> simp)
  rw [show (exB 6 6).yards 3 = ((5, 5), 0) by decide +kernel] at a1
  rw [show (exB 4 6).heap 0 0 = ((10, 11), 0) by decide +kernel] at a2
  rw [show (exB 4 6).heap 1 4 = ((4, 6), 0) by decide +kernel] at a3
  rw [show (exB 4 6).owed 0 1 = ((8, 10), 0) by decide +kernel] at a4
  rw [show (exB 4 6).fitsQ 1 4 = (false, 0) by decide +kernel] at a5
  rw [show (exB 4 6).fitsQ 2 3 = (false, 0) by decide +kernel] at a6
  rw [show (exB 4 6).liars = ([], 0) by decide +kernel] at a7
  rw [show ((exB 9 9).ok && (exB 9 9).can (inL [])) = false by decide +kernel, show (exB 9 9).ok = true by decide +kernel] at a8
  rw [show (exB 4 6).wrong = ([], 0) by decide +kernel] at a9
  rw [none_wrong] at a10
  simp only [spanV, iv_nil, if_true] at a1 a2 a3 a4 a5 a6 a7 a8 a9 a10
  have y1 : eqk (some 2) (.agg [.int .i64 5, .int .i64 5]) (.agg [.int .i64 5, .int .i64 5]) = some true := rfl
  have y2 : eqk (some 2) (.agg [.int .i64 10, .int .i64 11]) (.agg [.int .i64 10, .int .i64 11]) = some true := rfl
  have y3 : eqk (some 2) (.agg [.int .i64 4, .int .i64 6]) (.agg [.int .i64 4, .int .i64 6]) = some true := rfl
  have y4 : eqk (some 2) (.agg [.int .i64 8, .int .i64 10]) (.agg [.int .i64 8, .int .i64 10]) = some true := rfl
  simp [exB, hvs, mvs] at a1 a2 a3 a4 a5 a6 a7 a8 a9
  simp [Bk.v, hvs, mvs] at a10
  have b1 := c54
  have b2 := c52
  have b3 := c53
  simp [exB, hvs, mvs] at b1 b2 b3
  simp [g14_macadamlaw03_StoneKnown_r3, b1, b2, b3, a1, a2, a3, a4, a5, a6, a7, a8, a9, a10, y1, y2, y3, y4, c41, c44, c23, Q14, List.replicate]
theorem own_yards : ∀ k : Fin 4, (exB 4 6).yards (k.val : Int) = ((3 + (if k.val = 1 ∨ k.val = 3 then 2 else if k.val = 2 then 1 else 0), 4 + (if k.val = 1 ∨ k.val = 3 then 2 else if k.val = 2 then 1 else 0)), 0) := by decide +kernel
theorem l14_2 (e : Env) (h : H) : wpr (den pr g14_macadamlaw03_StoneKnown_r2 e h) Q14 := by
  have b2 := c52
  simp [g14_macadamlaw03_StoneKnown_r2, c44, List.replicate]
  refine wpr_seq (wpr_oblock (loop_up pr (fun k e h => e 40 = .int .i64 k ∧ e 39 = .sl [.agg [.int .i64 3, .int .i64 4], .agg [.int .i64 5, .int .i64 6], .agg [.int .i64 4, .int .i64 5], .agg [.int .i64 5, .int .i64 6]] .exact) 4 ?_ ?_ 0 _ _ (by omega) ⟨rfl, rfl⟩))
  · rintro k e h hk ⟨e40, e39⟩
    have a1 := c19 (exB 4 6) (ex_fit _ _) k
    have hw : IntKind.wrap .i64 ((k : Int) + 1) = k + 1 := wrap_id (by omega) (by omega)
    have hk' : (k : Int) < 4 := by omega
    rw [own_yards ⟨k, hk⟩] at a1
    simp only [spanV] at a1
    have y1 : ∀ x y : Int, eqk (some 2) (.agg [.int .i64 x, .int .i64 y]) (.agg [.int .i64 x, .int .i64 y]) = some true := fun x y => by
      have := eqk_iv (n := 2) [x, y] [x, y] rfl rfl
      simpa using this
    have w3 : IntKind.wrap .i64 3 = 3 := rfl
    have w4 : IntKind.wrap .i64 4 = 4 := rfl
    rcases (show k = 0 ∨ k = 1 ∨ k = 2 ∨ k = 3 by omega) with rfl | rfl | rfl | rfl <;> simp at a1 e40 <;> simp [g14_macadamlaw03_StoneKnown_l1, e40, e39, b2, a1, y1, w3, w4]
  · rintro e h ⟨e40, e39⟩
    simp [g14_macadamlaw03_StoneKnown_l1, e40, e39, onB, onN]
    exact l14_3 _ _
theorem l14_1 (e : Env) (h : H) : wpr (den pr g14_macadamlaw03_StoneKnown_r1 e h) Q14 := by
  have a1 := c19 (exB 9 9) (ex_fit _ _) 4
  have a2 := c21 (exB 9 9) (ex_fit _ _) 2 0
  have a3 := c21 (exB 9 9) (ex_fit _ _) 0 5
  have a4 := c26 (exB 9 9) (ex_fit _ _) 4 0
  have a5 := c26 (exB 9 9) (ex_fit _ _) 0 100
  have a6 := c31 (exB 9 9) (ex_fit _ _) 0 7
  have a7 := c19 (exB 9 9) (ex_fit _ _) 0
  have a8 := c24 (exB 9 9) (ex_fit _ _)
  have a9 := c28 (exB 9 9) (ex_fit _ _)
  have a10 := c21 (exB 9 9) (ex_fit _ _) 0 0
  rw [show (exB 9 9).yards 4 = ((0, 0), 31) by decide +kernel] at a1
  rw [show (exB 9 9).heap 2 0 = ((0, 0), 31) by decide +kernel] at a2
  rw [show (exB 9 9).heap 0 5 = ((0, 0), 31) by decide +kernel] at a3
  rw [show (exB 9 9).owed 4 0 = ((0, 0), 31) by decide +kernel] at a4
  rw [show (exB 9 9).owed 0 100 = ((0, 0), 31) by decide +kernel] at a5
  rw [show (exB 9 9).fitsQ 0 7 = (false, 31) by decide +kernel] at a6
  rw [show (exB 9 9).yards 0 = ((0, 0), 32) by decide +kernel] at a7
  rw [show (exB 9 9).laid = ((0, 0), 32) by decide +kernel] at a8
  rw [show (exB 9 9).liars = ([], 32) by decide +kernel] at a9
  rw [show (exB 9 9).heap 0 0 = ((0, 0), 32) by decide +kernel] at a10
  simp only [spanV, iv_nil] at a1 a2 a3 a4 a5 a6 a7 a8 a9 a10
  have b3 := c53
  simp [g14_macadamlaw03_StoneKnown_r1, b3, a1, a2, a3, a4, a5, a6, a7, a8, a9, a10]
  exact l14_2 _ _
theorem l14_r (e : Env) (h : H) (hb : badI h) (e1 : e 1 = .msl 12 0 13 6) : wpr (den pr g14_macadamlaw03_StoneKnown_r0 e h) Q14 := by
  simp [g14_macadamlaw03_StoneKnown_r0]
  refine wpr_seq (wpr_oblock (wpr_mono (l14_0 _ _ hb (by simp [e1]) rfl) ?_))
  rintro o e' h' rfl
  simp [onB, onN]
  exact l14_1 _ _
theorem law14 : ∃ h', dcall pr (.fn 14 [] []) [] H.emp = some (.bool true, h') := by
  refine law_of fn14 rfl ?_
  have hbody : g14_macadamlaw03_StoneKnown.body = g14_macadamlaw03_StoneKnown_c := rfl
  rw [hbody]
  suffices hq : wpr (den pr g14_macadamlaw03_StoneKnown_c (init ([] ++ [] ++ [])) H.emp) Q14 from
    wpr_mono hq fun o e h ⟨h1, h2⟩ => ⟨h1, _, by simp [g14_macadamlaw03_StoneKnown, results, rdRess, rdRes, h2], rfl⟩
  rw [show H.emp = exN 0 from rfl]
  have hO : ∀ j, j < 12 → (exN 12).get j = some (.cells (iv (exO j))) := fun j hj => exN_get 12 j hj
  have hn := exN_n 12
  simp [g14_macadamlaw03_StoneKnown_c, d1052', d2052', hn, hO, exO, List.replicate, c44, c41, hc, mc, roomFor, exB_hs, exB_ms]
  refine l14_r _ _ ⟨?_, ?_, ?_⟩ ?_
  · simp [hn]
  · simp [hn, badL, exB_hs, exB_ms]
  · intro j h1 h2 h3
    left
    rcases (show j = 1 ∨ j = 2 ∨ j = 3 ∨ j = 4 ∨ j = 5 ∨ j = 6 ∨ j = 7 ∨ j = 8 ∨ j = 9 ∨ j = 10 ∨ j = 11 ∨ j = 13 ∨ j = 14 by omega) with
      rfl | rfl | rfl | rfl | rfl | rfl | rfl | rfl | rfl | rfl | rfl | rfl | rfl <;> simp [hO, hn, badC, exO, hc, mc, exB_hs, exB_ms]
  · simp
end Av
end

section
/- StoneKnown returns true for every input, and its input reads as it did: no condition. -/
namespace Go.Proofs.YtpjhmbfpfbpciaaDoor.stoneKnownProof
open Go Go.Proofs Go.Proofs.YtpjhmbfpfbpciaaDoor Go.ChangeShapes Go.WideShapes Go.ChangeAt Go.RowKit Av
set_option linter.constructorNameAsVariable false
set_option linter.unusedVariables false
set_option maxRecDepth 20000

theorem contract (H : Type) (enc : TypeId × Value → H) (W : World) (base : Nat) (args : Array Value) (ds gs : List (DataW H)) (before : List MemPlace)
    (hval : ∀ (j : Nat) t v, Tryd.f14.params[j]? = some t → args[j]? = some v → Value.okWide Tryd.prog W .any base t v)
    (hW : DataW.Whole enc Tryd.prog Tryd.f14.params.toList Rows.stoneKnownSpec.vars false W args.toList ds gs before) (hL : Globs W) :
    Calls Tryd.prog 14 args W fun e W' => ∃ v, e = .returned v ∧ Rows.stoneKnownSpec.post enc Tryd.prog Tryd.f14 false true false false W args v W' := by
  have hW' := hW
  have hlt := fun p hp => hW.lt p hp
  obtain ⟨p, q, hA0, hV, rfl, hfz, hnd⟩ := hW
  have hA : DataW.TrodAll enc Tryd.prog W 0 (fun _ => true) true Tryd.f14.params.toList args.toList ds p := hA0
  rw [Tryd.params14] at hA hval
  obtain ⟨hargs, rfl, rfl⟩ := trodAll_nil hA
  obtain rfl : args = #[] := by cases args; simp_all
  obtain ⟨rfl, rfl⟩ := trodVars_none hV
  obtain ⟨h', hx⟩ := law14
  refine (law_ok (start_ok hL.1 hL.2.1 hL.2.2.1 hL.2.2.2) (by omega) hx .nil).mono fun e W' ⟨he, hg, hsame⟩ => ?_
  subst he
  simp only [List.append_nil, List.nil_append] at hW' hlt
  have harg : ∀ sp : Nat → Bool, DataW.TrodAll enc Tryd.prog W' 0 sp true [] [] [] [] := fun sp => trodAll_mk0
  exact ⟨_, rfl, post_of_same (pa := []) (pv := []) hW' (fun _ _ _ => trodAll_cons_mk (shut_bool Tryd.underlying4 _) trodAll_mk0) (fun sp _ => harg sp) (fun _ _ => rfl) (by simp)
    (hg.frame _) hg.2.1 (ok_one (by kernel_rfl) rfl (okWide_bool_mk Tryd.underlying4 _))⟩

theorem met (os : Os) : laidMetH Tryd.prog Rows.stoneKnownRow.laid ((laidWorld os).forCall (fun _ _ => 0) ⟨#[], #[], []⟩).memory :=
  laidMetH_of_parts3 (fuel := 8) (laidMet_of_run' 8 (by kernel_rfl) (by kernel_rfl)) (by kernel_rfl) (by kernel_rfl)
theorem reads (os : Os) {H : Type} (enc : TypeId × Value → H) : ∃ places, DataW.whole enc Tryd.prog ((laidWorld os).forCall (fun _ _ => 0) ⟨#[], #[], []⟩).memory Tryd.f14.params.toList Rows.stoneKnownSpec.vars false (#[] : Array Value).toList 8 = some ([], [], places) :=
  ⟨[], by kernel_rfl⟩
set_option maxRecDepth 100000 in
theorem lifted (os : Os) (started : os.Started) (H : Type) (enc : TypeId × Value → H) (F : Stop.Interp) :
    ReturnsInHanded {} Tryd.checked os 14 .any ((OpenSpec.ofChange Rows.stoneKnownSpec).preRow enc Tryd.prog Tryd.f14 Rows.stoneKnownRow.domain false Rows.stoneKnownRow.laid) (((OpenSpec.ofChange Rows.stoneKnownSpec).at F).post enc Tryd.prog Tryd.f14 false true false false) := by
  obtain ⟨places, hx⟩ := reads os enc
  refine returnsInHanded_of_row (C := Tryd.checked) (s := OpenSpec.ofChange Rows.stoneKnownSpec) ownK started (by kernel_rfl) Tryd.func14
    (witness_row_at (enc := enc) (C := Tryd.checked) false (laidWorld os) #[] rfl (by kernel_rfl) (by kernel_rfl) (by kernel_rfl)
      (OpenSpec.preRow_of_cond 8 hx (by kernel_rfl) (fun k hk => by cases hk) (by kernel_rfl) (met os))) ?_
  intro W base args ds gs before hval hW _ _ _ hL _ _
  exact contract H enc W base args ds gs before hval hW (globs_of hL)
theorem said : Rows.StoneKnownSaid :=
  OpenClaim.holds_of_cond 14 Tryd.f14 rfl rfl rfl rfl rfl rfl rfl ⟨rfl, rfl, rfl, rfl, rfl⟩ rfl rfl rfl rfl rfl (by kernel_rfl) Tryd.func14 (by kernel_rfl)
    (of_decide_eq_true (by kernel_rfl)) (by unfold Func.isWrapper; first | (rw [if_pos (by decide +kernel)]; kernel_rfl) | (rw [if_neg (by decide +kernel)]; exact ⟨rfl, rfl⟩))
    (fun os started H enc _ F => by rw [OpenClaim.pre_eq_preRow]; exact lifted os started H enc F)
theorem plain (f : FuncId) (fn : Func) (hf : Tryd.pinned.checked.prog.funcNamed "macadam/macadamlaw03.StoneKnown" = some f) (hfn : Tryd.pinned.checked.prog.funcs[f]? = some fn) :
    false = Tryd.pinned.checked.prog.looks [] ∧ ∀ (j : Nat) t, fn.params[j]? = some t → Tryd.pinned.checked.prog.wantsStandIn t = false := by
  obtain rfl : f = 14 := Option.some.inj ((show Tryd.prog.funcNamed "macadam/macadamlaw03.StoneKnown" = some 14 by kernel_rfl).symm.trans hf) |>.symm
  obtain rfl : fn = Tryd.f14 := (Option.some.inj (Tryd.func14.symm.trans hfn)).symm
  refine ⟨by kernel_rfl, fun j t ht => ?_⟩
  rw [Tryd.params14] at ht
  simp at ht
theorem card : Rows.StoneKnownCardSaid :=
  Claim7.holds_tied_plain_at .later [] _ _ _ _ said (fun _ h => by cases h) (by kernel_rfl) (fun _ h => by cases h) stoneKnown_row_tie rfl ⟨rfl, rfl⟩ (by kernel_rfl) rfl plain (by kernel_rfl)
end Go.Proofs.YtpjhmbfpfbpciaaDoor.stoneKnownProof
namespace Go.Proofs.YtpjhmbfpfbpciaaDoor
theorem stoneKnown_card : Rows.StoneKnownCardSaid := stoneKnownProof.card
end Go.Proofs.YtpjhmbfpfbpciaaDoor
end

