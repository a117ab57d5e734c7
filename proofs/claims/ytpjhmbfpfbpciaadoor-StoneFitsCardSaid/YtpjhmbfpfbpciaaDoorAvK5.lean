/- StoneFits returns true for every input, and its input reads as it did: no condition. -/
import Derived.Test.YtpjhmbfpfbpciaaDoorAvMH
import Derived.Test.YtpjhmbfpfbpciaaDoorAvMK
import Derived.KernelRfl
set_option linter.all false
set_option linter.unusedSectionVars false
set_option linter.unusedVariables false
set_option linter.unusedSimpArgs false
section
/- Contracts of the reference: All, Sooner, Fewer, Wrong. -/
set_option linter.unusedSimpArgs false
set_option linter.unusedVariables false
namespace Av
open Go (IntKind BinOp UnOp)
theorem c48 (s m : Nat) (hs : s < 64) (hm : m ≤ 6) : icall pr (.fn 48 [] []) [.int .i64 s, .int .i64 m] = some (.sl (iv (outs s m)) .shut) := by
  refine icall_fn fn48 rfl (by simp) rfl (by simp) ?_
  simp [g48_macadamref00_All, g48_macadamref00_All_c]
  refine wpr_seq (wpr_oblock (loop_up pr (fun k e h => e 0 = .int .i64 s ∧ e 1 = .int .i64 m ∧ e 6 = .int .i64 k ∧ ∃ kk, e 5 = .sl (iv (outs s k)) kk ∧ Opn h kk) m ?_ ?_ 0 _ _ (by omega) ⟨rfl, rfl, rfl, .exact, rfl, trivial⟩))
  · rintro k e h hk ⟨e0, e1, e6, kk, e5, hop⟩
    have hw : IntKind.wrap .i64 ((k : Int) + 1) = k + 1 := wrap_id (by omega) (by omega)
    have hkm : (k : Int) < m := by omega
    have c1 := c87 s k hs (by omega)
    have hsu := outs_succ s k
    have hol := outs_len s k
    have ht : s.testBit k = decide (s / 2 ^ k % 2 = 1) := Nat.testBit_eq_decide_div_mod_eq
    obtain ⟨k2, h2, ha, hb2, _⟩ := app_ok (bytes := 8) (new := [.int .i64 k]) (k2 := .exact) (sz := 1) (es := iv (outs s k)) hop (by simp) (iv_cell1 _) (by simp) (by simp; omega)
    simp at ha
    rw [ht] at c1
    by_cases hq : s / 2 ^ k % 2 = 1
    · rw [if_pos hq] at hsu
      rw [decide_eq_true hq] at c1
      simp [g48_macadamref00_All_l0, e0, e1, e6, e5, hk, c1, hw, ha, hb2, hsu]
    · rw [if_neg hq, List.append_nil] at hsu
      rw [decide_eq_false hq] at c1
      simp [g48_macadamref00_All_l0, e0, e1, e6, e5, hk, c1, hw, hsu, hop]
  · rintro e h ⟨e0, e1, e6, kk, e5, hop⟩
    simp [g48_macadamref00_All_l0, e0, e1, e6, e5, onB, onN, results, rdRess, rdRes]
/-- does a list come before another one? -/
def sooner : List Int → List Int → Bool
  | x :: l, y :: m => if x = y then sooner l m else decide (x < y)
  | [], [] => false
  | [], _ :: _ => true
  | _ :: _, [] => false
def fewer (l m : List Int) : Bool := if l.length = m.length then sooner l m else decide (l.length < m.length)
theorem c88 (l m : List Int) (hl : (l.length : Int) ≤ 9223372036854775807) : icall pr (.fn 88 [] []) [.sl (iv l) .shut, .sl (iv m) .shut] = some (.bool (sooner l m)) := by
  refine icall_fn fn88 rfl (by simp) (by simp) rfl ?_
  simp [g88_macadamref00_Sooner, g88_macadamref00_Sooner_c]
  have hiv : ∀ (q : List Int) (k : Nat) (h : k < q.length), (iv q)[k]? = some (.int .i64 q[k]) := fun q k h => by rw [iv_get, List.getElem?_eq_getElem h]; rfl
  refine wpr_seq (wpr_oblock (loop_up pr (fun k e h => e 0 = .sl (iv l) .shut ∧ e 1 = .sl (iv m) .shut ∧ e 5 = .int .i64 k ∧ sooner l m = sooner (l.drop k) (m.drop k)) (min l.length m.length) ?_ ?_ 0 _ _ (by omega) ⟨rfl, rfl, rfl, rfl⟩))
  · rintro k e h hk ⟨e0, e1, e5, hs⟩
    have hkl : k < l.length := by omega
    have hkm : k < m.length := by omega
    have hw : IntKind.wrap .i64 ((k : Int) + 1) = k + 1 := wrap_id (by omega) (by omega)
    rw [List.drop_eq_getElem_cons hkl, List.drop_eq_getElem_cons hkm, sooner] at hs
    by_cases hq : l[k] = m[k]
    · rw [if_pos hq] at hs
      simp [g88_macadamref00_Sooner_l0, e0, e1, e5, hkl, hkm, hq, hw, hs]
    · rw [if_neg hq] at hs
      simp [g88_macadamref00_Sooner_l0, e0, e1, e5, hkl, hkm, hq, hw, hs, onB, onN, results, rdRess, rdRes]
  · rintro e h ⟨e0, e1, e5, hs⟩
    by_cases hq : l.length ≤ m.length
    · have hmn : min l.length m.length = l.length := by omega
      rw [hmn] at e5 hs
      rw [List.drop_length] at hs
      have hs2 : sooner l m = decide (l.length < m.length) := by
        rw [hs]
        by_cases h2 : l.length = m.length
        · rw [h2, List.drop_length]; simp [sooner]
        · have h3 : l.length < m.length := by omega
          rw [List.drop_eq_getElem_cons h3]; simp [sooner, h3]
      simp [g88_macadamref00_Sooner_l0, e0, e1, e5, hs2, onB, onN, results, rdRess, rdRes]
    · have hmn : min l.length m.length = m.length := by omega
      rw [hmn] at e5 hs
      rw [List.drop_length] at hs
      have h3 : m.length < l.length := by omega
      have hs2 : sooner l m = false := by
        rw [hs, List.drop_eq_getElem_cons h3]; rfl
      have h4 : ¬ l.length < m.length := by omega
      simp [g88_macadamref00_Sooner_l0, e0, e1, e5, hs2, h3, h4, onB, onN, results, rdRess, rdRes]
theorem c50 (l m : List Int) (hl : (l.length : Int) ≤ 9223372036854775807) : icall pr (.fn 50 [] []) [.sl (iv l) .shut, .sl (iv m) .shut] = some (.bool (fewer l m)) := by
  refine icall_fn fn50 rfl (by simp) (by simp) rfl ?_
  have c1 := c88 l m hl
  by_cases hq : l.length = m.length
  · simp [g50_macadamref00_Fewer, g50_macadamref00_Fewer_c, results, rdRess, rdRes, hq, c1, fewer]
  · have hq' : ¬ (l.length : Int) = m.length := by omega
    simp [g50_macadamref00_Fewer, g50_macadamref00_Fewer_c, results, rdRess, rdRes, hq, hq', fewer]
/-- the best so far -/
def Bk.bestTo (b : Bk) : Nat → List Int
  | 0 => outs (2 ^ b.ms.length - 1) b.ms.length
  | k + 1 => if fewer (outs k b.ms.length) (b.bestTo k) && b.can (fun j => k.testBit j) then outs k b.ms.length else b.bestTo k
def Bk.wrongR (b : Bk) : List Int × Int := if b.ok then (if b.can (fun j => (2 ^ b.ms.length - 1).testBit j) then (b.bestTo (2 ^ b.ms.length), 0) else ([], 32)) else ([], 30)
theorem cart_can (b : Bk) (bs : Nat → Bool) : 0 < (cartL b bs zeros b.ms.length).length ↔ b.can bs = true := by
  simp only [cartL, List.length_map, Bk.can, Bk.all]
  cases b.carts bs zeros b.ms.length <;> simp
theorem bestTo_len (b : Bk) (k : Nat) : (b.bestTo k).length ≤ b.ms.length := by
  induction k with
  | zero => exact outs_len _ _
  | succ k ih => simp only [Bk.bestTo]; split; exact outs_len _ _; exact ih
theorem c34 (b : Bk) (hb : b.fit) : icall pr (.fn 34 [] []) [b.v] = some (.tup [.sl (iv b.wrongR.1) .shut, .int .i64 b.wrongR.2]) := by
  refine icall_fn fn34 rfl (by simp) (by simp) (by simp) ?_
  cases hok : b.ok with
  | false => simp [g34_macadamref03_Wrong, g34_macadamref03_Wrong_c, c18 b hb, hok, results, rdRess, rdRes, Bk.wrongR]
  | true =>
    have hlen := ok_len hok
    have h32 : 2 ^ b.ms.length ≤ 32 := Nat.le_trans (Nat.pow_le_pow_right (by omega) hlen.2.2) (by decide)
    have hp : 0 < 2 ^ b.ms.length := Nat.pow_pos (by omega)
    have hsh := bin_shl b.ms.length (by omega)
    have hfull := dc58 b hok (2 ^ b.ms.length - 1) (by omega) b.ms.length 0 zeros (by omega) lok_zeros
    have hcf := cart_can b (fun j => (2 ^ b.ms.length - 1).testBit j)
    have hall := c48 (2 ^ b.ms.length - 1) b.ms.length (by omega) (by omega)
    have hcast : ((2 ^ b.ms.length - 1 : Nat) : Int) = ((2 ^ b.ms.length : Nat) : Int) - 1 := by omega
    have hw1 : IntKind.wrap .i64 (((2 ^ b.ms.length : Nat) : Int) - 1) = ((2 ^ b.ms.length : Nat) : Int) - 1 := wrap_id (by omega) (by omega)
    have hR : b.wrongR = if b.can (fun j => (2 ^ b.ms.length - 1).testBit j) then (b.bestTo (2 ^ b.ms.length), 0) else ([], 32) := by simp only [Bk.wrongR, hok, if_true]
    have hz : iv (zeros.take 0) = [] := rfl
    rw [hz] at hfull
    rw [hcast] at hfull hall
    rw [hR]
    have hstep : ∀ k : Nat, k < 2 ^ b.ms.length → icall pr (.fn 58 [] []) [b.v, .int .i64 k, .sl [] .shut] = some (.sl (lv (cartL b (fun j => k.testBit j) zeros b.ms.length)) .shut) := fun k hk => by
      have := dc58 b hok k (by omega) b.ms.length 0 zeros (by omega) lok_zeros
      rw [hz] at this; exact this
    have hbest0 : b.bestTo 0 = outs (2 ^ b.ms.length - 1) b.ms.length := rfl
    generalize hN : 2 ^ b.ms.length = N at *
    cases hc : b.can (fun j => (N - 1).testBit j) with
    | false =>
      have h0 : (cartL b (fun j => (N - 1).testBit j) zeros b.ms.length).length = 0 := by
        have : ¬ 0 < (cartL b (fun j => (N - 1).testBit j) zeros b.ms.length).length := fun h => by rw [hcf.1 h] at hc; cases hc
        omega
      generalize hQ : cartL b (fun j => (N - 1).testBit j) zeros b.ms.length = Q at *
      simp [g34_macadamref03_Wrong, g34_macadamref03_Wrong_c, c18 b hb, hok, hsh, hw1, hfull, h0, results, rdRess, rdRes]
    | true =>
      have h0 : ¬ (cartL b (fun j => (N - 1).testBit j) zeros b.ms.length).length = 0 := by
        have := hcf.2 hc; omega
      generalize hQ : cartL b (fun j => (N - 1).testBit j) zeros b.ms.length = Q at *
      have h0' : ¬ Q = [] := fun h => h0 (by rw [h]; rfl)
      simp [g34_macadamref03_Wrong, g34_macadamref03_Wrong_c, c18 b hb, hok, hsh, hw1, hfull, hall, h0, h0']
      refine wpr_seq (wpr_oblock (loop_up pr (fun k e h => e 1 = b.bx ∧ e 5 = .int .i64 b.ms.length ∧ e 7 = .int .i64 k ∧ ∃ kk, e 6 = .sl (iv (b.bestTo k)) kk) N ?_ ?_ 0 _ _ (by omega) ⟨rfl, rfl, rfl, .shut, by simp [hbest0]⟩))
      · rintro k e h hk ⟨e1, e5, e7, kk, e6⟩
        have hw : IntKind.wrap .i64 ((k : Int) + 1) = k + 1 := wrap_id (by omega) (by omega)
        have hkN : (k : Int) < N := by omega
        have c1 := c48 k b.ms.length (by omega) (by omega)
        have hol := outs_len k b.ms.length
        have c2 := c50 (outs k b.ms.length) (b.bestTo k) (by omega)
        have c3 := hstep k hk
        have hcc := cart_can b (fun j => k.testBit j)
        have hbs : b.bestTo (k + 1) = if fewer (outs k b.ms.length) (b.bestTo k) && b.can (fun j => k.testBit j) then outs k b.ms.length else b.bestTo k := rfl
        rw [hbs]
        generalize outs k b.ms.length = O at *
        generalize b.bestTo k = B at *
        generalize cartL b (fun j => k.testBit j) zeros b.ms.length = D at *
        cases hf : fewer O B with
        | false =>
          rw [hf] at c2
          simp [g34_macadamref03_Wrong_l0, e1, e5, e7, e6, hsh, hkN, hk, c1, c2, hw]
        | true =>
          rw [hf] at c2
          cases hcn : b.can (fun j => k.testBit j) with
          | true =>
            have h1 : 0 < D.length := hcc.2 hcn
            simp [g34_macadamref03_Wrong_l0, e1, e5, e7, e6, hsh, hkN, hk, c1, c2, c3, hw, h1]
          | false =>
            have h1 : ¬ 0 < D.length := fun h => by rw [hcc.1 h] at hcn; cases hcn
            have h2 : D = [] := List.length_eq_zero_iff.1 (by omega)
            simp [g34_macadamref03_Wrong_l0, e1, e5, e7, e6, hsh, hkN, hk, c1, c2, c3, hw, h2]
      · rintro e h ⟨e1, e5, e7, kk, e6⟩
        simp [g34_macadamref03_Wrong_l0, e5, e7, e6, hsh, onB, onN, results, rdRess, rdRes]
end Av
end

section
/- The tallies that must be false: program and reference choose the same. -/
set_option linter.unusedSimpArgs false
set_option linter.unusedVariables false
namespace Av
theorem tr_mono {b : Bk} {bs bs' : Nat → Bool} (h : ∀ k, k < b.ms.length → bs k = true → bs' k = true) {l : List Int} (hl : Tr b bs l) : Tr b bs' l := by
  refine ⟨hl.lok, hl.nil, fun j hj => ?_, hl.fits⟩
  have hm : b.ms[j]? = some b.ms[j] := List.getElem?_eq_getElem hj
  exact (right_iff hm).2 (((right_iff hm).1 (hl.right j hj)).imp (h j hj) id)
theorem can_mono {b : Bk} (hok : b.ok = true) {bs bs' : Nat → Bool} (h : ∀ k, k < b.ms.length → bs k = true → bs' k = true) (hc : b.can bs = true) : b.can bs' = true := by
  obtain ⟨l, hl⟩ := (can_iff hok).1 hc
  exact (can_iff hok).2 ⟨l, tr_mono h hl⟩
theorem can_congr {b : Bk} (hok : b.ok = true) {bs bs' : Nat → Bool} (h : ∀ k, k < b.ms.length → bs k = bs' k) : b.can bs = b.can bs' := by
  rw [Bool.eq_iff_iff]
  exact ⟨can_mono hok fun k hk h1 => by rw [← h k hk]; exact h1, can_mono hok fun k hk h1 => by rw [h k hk]; exact h1⟩
theorem find_range {β : Type} (g : Nat → Option β) (N : Nat) (W : β) (h : (List.range N).findSome? g = some W) : ∃ n, n < N ∧ g n = some W ∧ ∀ j, j < n → g j = none := by
  induction N with
  | zero => simp at h
  | succ N ih =>
    cases hN : (List.range N).findSome? g with
    | some V =>
      rw [findSome_pre g N (N + 1) V (by omega) hN] at h
      cases h
      obtain ⟨n, h1, h2, h3⟩ := ih hN
      exact ⟨n, by omega, h2, h3⟩
    | none =>
      rw [findSome_succ g N hN] at h
      rw [List.findSome?_eq_none_iff] at hN
      exact ⟨N, by omega, h, fun j hj => hN j (List.mem_range.2 hj)⟩
theorem from_app (l : List Int) (n : Int) : fromI (l ++ [n]) = n + 1 := by
  cases l with
  | nil => simp [fromI]
  | cons x t => simp [fromI]
theorem choose_spec (b : Bk) : ∀ (d : Nat) (l : List Int), 0 ≤ fromI l →
    (∀ W, b.choose d l = some W → ∃ suf, W = l ++ suf ∧ suf.length = d ∧ rising b.ms.length (fromI l - 1) suf = true ∧ b.can (inL W) = true ∧
      ∀ s', s'.length = d → rising b.ms.length (fromI l - 1) s' = true → b.can (inL (l ++ s')) = true → sooner s' suf = false) ∧
    (b.choose d l = none → ∀ s', s'.length = d → rising b.ms.length (fromI l - 1) s' = true → b.can (inL (l ++ s')) = false) := by
  intro d
  induction d with
  | zero =>
    intro l h0
    constructor
    · intro W hW
      simp only [Bk.choose] at hW
      split at hW
      · cases hW
        rename_i hc
        exact ⟨[], by simp, rfl, rfl, hc, fun s' hs _ _ => by rw [List.length_eq_zero_iff.1 hs]; rfl⟩
      · cases hW
    · intro hN s' hs _
      simp only [Bk.choose] at hN
      split at hN
      · cases hN
      · rename_i hc
        rw [List.length_eq_zero_iff.1 hs, List.append_nil]
        simpa using hc
  | succ d ih =>
    intro l h0
    have hex : ∀ s', s'.length = d + 1 → rising b.ms.length (fromI l - 1) s' = true → ∃ (n : Nat) (t : List Int), s' = (n : Int) :: t ∧ t.length = d ∧ n < b.ms.length ∧ fromI l ≤ n ∧ rising b.ms.length n t = true := by
      intro s' hs hr
      cases s' with
      | nil => simp at hs
      | cons x t =>
        simp only [rising, Bool.and_eq_true, decide_eq_true_eq] at hr
        obtain ⟨n, rfl⟩ := Int.eq_ofNat_of_zero_le (show 0 ≤ x by omega)
        exact ⟨n, t, rfl, by simpa using hs, by omega, by omega, hr.2⟩
    have hfr : ∀ n : Nat, fromI (l ++ [(n : Int)]) - 1 = n := fun n => by rw [from_app]; omega
    constructor
    · intro W hW
      obtain ⟨n, hn, hg, hb⟩ := find_range _ _ _ hW
      split at hg
      · rename_i hfn
        obtain ⟨suf, h1, h2, h3, h4, h5⟩ := (ih (l ++ [(n : Int)]) (by rw [from_app]; omega)).1 W hg
        rw [hfr] at h3 h5
        refine ⟨(n : Int) :: suf, by simp [h1], by simp [h2], ?_, h4, fun s' hs hr hc => ?_⟩
        · simp only [rising, h3, Bool.and_true, decide_eq_true_eq]; omega
        · obtain ⟨n', t, rfl, ht, hn', hf', hr'⟩ := hex s' hs hr
          have e1 : l ++ (n' : Int) :: t = l ++ [(n' : Int)] ++ t := by simp
          simp only [sooner]
          by_cases hq : n' = n
          · subst hq
            rw [if_pos rfl]
            exact h5 t ht hr' (by rw [← e1]; exact hc)
          · rw [if_neg (by omega)]
            by_cases hlt : n' < n
            · have hnone := hb n' hlt
              simp only [hf', if_true] at hnone
              have := (ih (l ++ [(n' : Int)]) (by rw [from_app]; omega)).2 hnone t ht (by rw [hfr]; exact hr')
              rw [e1, this] at hc; cases hc
            · exact decide_eq_false (by omega)
      · cases hg
    · intro hN s' hs hr
      obtain ⟨n', t, rfl, ht, hn', hf', hr'⟩ := hex s' hs hr
      have e1 : l ++ (n' : Int) :: t = l ++ [(n' : Int)] ++ t := by simp
      simp only [Bk.choose] at hN
      rw [List.findSome?_eq_none_iff] at hN
      have hnone := hN n' (List.mem_range.2 hn')
      simp only [hf', if_true] at hnone
      have := (ih (l ++ [(n' : Int)]) (by rw [from_app]; omega)).2 hnone t ht (by rw [hfr]; exact hr')
      rw [e1]; exact this

theorem rising_iff (below : Int) (L : List Int) : ∀ last, rising below last L = true ↔ L.Pairwise (· < ·) ∧ ∀ x ∈ L, last < x ∧ x < below := by
  induction L with
  | nil => intro last; simp [rising]
  | cons x l ih =>
    intro last
    simp only [rising, Bool.and_eq_true, decide_eq_true_eq, ih, List.pairwise_cons, List.mem_cons, forall_eq_or_imp]
    constructor
    · rintro ⟨h1, h2, h3⟩
      exact ⟨⟨fun y hy => (h3 y hy).1, h2⟩, h1, fun y hy => ⟨by have := (h3 y hy).1; omega, (h3 y hy).2⟩⟩
    · rintro ⟨⟨h1, h2⟩, h3, h4⟩
      exact ⟨h3, h2, fun y hy => ⟨h1 y hy, (h4 y hy).2⟩⟩
theorem sorted_ext : ∀ (l m : List Int), l.Pairwise (· < ·) → m.Pairwise (· < ·) → (∀ x, x ∈ l ↔ x ∈ m) → l = m := by
  intro l
  induction l with
  | nil =>
    intro m _ _ h
    cases m with
    | nil => rfl
    | cons y m => exact absurd ((h y).2 (by simp)) (by simp)
  | cons x l ih =>
    intro m h1 h2 h
    cases m with
    | nil => exact absurd ((h x).1 (by simp)) (by simp)
    | cons y m =>
      rw [List.pairwise_cons] at h1 h2
      have hxy : x = y := by
        have hx := (h x).1 (by simp)
        have hy := (h y).2 (by simp)
        rcases List.mem_cons.1 hx with rfl | hx
        · rfl
        · rcases List.mem_cons.1 hy with rfl | hy
          · rfl
          · have := h2.1 x hx
            have := h1.1 y hy
            omega
      subst hxy
      congr 1
      refine ih m h1.2 h2.2 fun z => ?_
      constructor
      · intro hz
        rcases List.mem_cons.1 ((h z).1 (by simp [hz])) with rfl | h3
        · exact absurd (h1.1 z hz) (by omega)
        · exact h3
      · intro hz
        rcases List.mem_cons.1 ((h z).2 (by simp [hz])) with rfl | h3
        · exact absurd (h2.1 z hz) (by omega)
        · exact h3
theorem outs_sorted (s k : Nat) : (outs s k).Pairwise (· < ·) := by
  unfold outs
  refine List.Pairwise.map _ (fun a b h => by simpa using h) ?_
  exact List.Pairwise.filter _ List.pairwise_lt_range
theorem outs_rise (s k : Nat) : rising k (-1) (outs s k) = true := by
  rw [rising_iff]
  refine ⟨outs_sorted s k, fun x hx => ?_⟩
  obtain ⟨c, h1, rfl, _⟩ := (outs_mem s k x).1 hx
  omega
theorem outs_in {s k j : Nat} (hj : j < k) : inL (outs s k) j = s.testBit j := by
  rw [Bool.eq_iff_iff]
  simp only [inL, decide_eq_true_eq, outs_mem]
  constructor
  · rintro ⟨c, _, h2, h3⟩
    have : c = j := by omega
    subst this; exact h3
  · intro h; exact ⟨j, hj, rfl, h⟩
theorem setTo_bit (l : List Int) (k c : Nat) : (setTo l k).testBit c = true ↔ ∃ j, j < k ∧ (l.getD j 0).toNat = c := by
  induction k with
  | zero => simp [setTo]
  | succ k ih =>
    simp only [setTo, Nat.testBit_or, Bool.or_eq_true, ih, Nat.testBit_two_pow, decide_eq_true_eq]
    constructor
    · rintro (⟨j, h1, h2⟩ | h)
      · exact ⟨j, by omega, h2⟩
      · exact ⟨k, by omega, h⟩
    · rintro ⟨j, h1, h2⟩
      by_cases hq : j = k
      · subst hq; exact .inr h2
      · exact .inl ⟨j, by omega, h2⟩
theorem setTo_lt2 (l : List Int) (m k : Nat) (h : ∀ j, j < k → (l.getD j 0).toNat < m) : setTo l k < 2 ^ m := by
  induction k with
  | zero => exact Nat.pow_pos (by omega)
  | succ k ih => exact Nat.or_lt_two_pow (ih fun j hj => h j (by omega)) (Nat.pow_lt_pow_right (by omega) (h k (by omega)))
/-- a rising list is a set's -/
theorem outs_of {L : List Int} {m : Nat} (h : rising m (-1) L = true) : ∃ s, s < 2 ^ m ∧ outs s m = L := by
  rw [rising_iff] at h
  have hg : ∀ j, j < L.length → L.getD j 0 ∈ L := fun j hj => by
    rw [List.getD_eq_getElem?_getD, List.getElem?_eq_getElem hj]; exact List.getElem_mem _
  refine ⟨setTo L L.length, setTo_lt2 L m _ (fun j hj => by have := h.2 _ (hg j hj); omega), ?_⟩
  refine sorted_ext _ _ (outs_sorted _ _) h.1 fun x => ?_
  rw [outs_mem]
  constructor
  · rintro ⟨c, h1, rfl, h3⟩
    obtain ⟨j, h4, h5⟩ := (setTo_bit L _ c).1 h3
    have := h.2 _ (hg j h4)
    have e : L.getD j 0 = (c : Int) := by omega
    rw [← e]; exact hg j h4
  · intro hx
    have := h.2 x hx
    obtain ⟨j, hj, hjx⟩ := List.mem_iff_getElem.1 hx
    refine ⟨x.toNat, by omega, by omega, (setTo_bit L _ _).2 ⟨j, hj, ?_⟩⟩
    rw [List.getD_eq_getElem?_getD, List.getElem?_eq_getElem hj, hjx]; rfl

theorem sooner_trans : ∀ (A B C : List Int), sooner A B = true → sooner B C = true → sooner A C = true := by
  intro A
  induction A with
  | nil =>
    intro B C h1 h2
    cases B with
    | nil => exact absurd h1 (by simp [sooner])
    | cons y B => cases C with
      | nil => exact absurd h2 (by simp [sooner])
      | cons z C => rfl
  | cons x A ih =>
    intro B C h1 h2
    cases B with
    | nil => exact absurd h1 (by simp [sooner])
    | cons y B => cases C with
      | nil => exact absurd h2 (by simp [sooner])
      | cons z C =>
        simp only [sooner] at h1 h2 ⊢
        by_cases e1 : x = y
        · subst e1
          rw [if_pos rfl] at h1
          by_cases e2 : x = z
          · subst e2
            rw [if_pos rfl] at h2 ⊢
            exact ih B C h1 h2
          · rw [if_neg e2] at h2 ⊢; exact h2
        · rw [if_neg e1] at h1
          by_cases e2 : y = z
          · subst e2; rw [if_neg e1]; exact h1
          · rw [if_neg e2] at h2
            simp only [decide_eq_true_eq] at h1 h2
            rw [if_neg (by omega), decide_eq_true (by omega)]
theorem sooner_total : ∀ (A B : List Int), sooner A B = false → sooner B A = false → A = B := by
  intro A
  induction A with
  | nil => intro B h1 h2; cases B with
    | nil => rfl
    | cons y B => exact absurd h1 (by simp [sooner])
  | cons x A ih => intro B h1 h2; cases B with
    | nil => exact absurd h2 (by simp [sooner])
    | cons y B =>
      simp only [sooner] at h1 h2
      by_cases e : x = y
      · subst e
        rw [if_pos rfl] at h1 h2
        rw [ih B h1 h2]
      · rw [if_neg e] at h1
        rw [if_neg (fun h => e h.symm)] at h2
        simp only [decide_eq_false_iff_not] at h1 h2
        omega
theorem fewer_trans {A B C : List Int} (h1 : fewer A B = true) (h2 : fewer B C = true) : fewer A C = true := by
  simp only [fewer] at h1 h2 ⊢
  by_cases e1 : A.length = B.length
  · rw [if_pos e1] at h1
    by_cases e2 : B.length = C.length
    · rw [if_pos e2] at h2
      rw [if_pos (e1.trans e2)]; exact sooner_trans A B C h1 h2
    · rw [if_neg e2] at h2
      rw [if_neg (by omega)]
      simp only [decide_eq_true_eq] at h2 ⊢; omega
  · rw [if_neg e1] at h1
    simp only [decide_eq_true_eq] at h1
    by_cases e2 : B.length = C.length
    · rw [if_neg (by omega), decide_eq_true (by omega)]
    · rw [if_neg e2] at h2
      simp only [decide_eq_true_eq] at h2
      rw [if_neg (by omega), decide_eq_true (by omega)]
theorem fewer_total {A B : List Int} (h1 : fewer A B = false) (h2 : fewer B A = false) : A = B := by
  simp only [fewer] at h1 h2
  by_cases e : A.length = B.length
  · rw [if_pos e] at h1
    rw [if_pos e.symm] at h2
    exact sooner_total A B h1 h2
  · rw [if_neg e] at h1
    rw [if_neg (fun h => e h.symm)] at h2
    simp only [decide_eq_false_iff_not] at h1 h2
    omega
theorem fewer_irrefl (A : List Int) : fewer A A = false := by
  have : ∀ A : List Int, sooner A A = false := by
    intro A
    induction A with
    | nil => rfl
    | cons x A ih => simp [sooner, ih]
  simp [fewer, this]
/-- what the reference keeps -/
theorem best_spec {b : Bk} (hok : b.ok = true) (hc : b.can (fun j => (2 ^ b.ms.length - 1).testBit j) = true) : ∀ k,
    rising b.ms.length (-1) (b.bestTo k) = true ∧ b.can (inL (b.bestTo k)) = true ∧ ∀ s, s < k → b.can (fun j => s.testBit j) = true → fewer (outs s b.ms.length) (b.bestTo k) = false := by
  intro k
  induction k with
  | zero => exact ⟨outs_rise _ _, by rw [← hc]; exact can_congr hok fun j hj => outs_in hj, by omega⟩
  | succ k ih =>
    obtain ⟨i1, i2, i3⟩ := ih
    simp only [Bk.bestTo]
    split
    · rename_i hq
      simp only [Bool.and_eq_true] at hq
      refine ⟨outs_rise _ _, by rw [← hq.2]; exact can_congr hok fun j hj => outs_in hj, fun s hs hcs => ?_⟩
      by_cases hk : s = k
      · subst hk; exact fewer_irrefl _
      · rw [← Bool.not_eq_true]
        intro h
        have := fewer_trans h hq.1
        rw [i3 s (by omega) hcs] at this; cases this
    · rename_i hq
      refine ⟨i1, i2, fun s hs hcs => ?_⟩
      by_cases hk : s = k
      · subst hk
        rw [hcs, Bool.and_true] at hq
        simpa using hq
      · exact i3 s (by omega) hcs
/-- what the program chooses -/
theorem wrong_spec {b : Bk} (hok : b.ok = true) {W : List Int} (h : b.wrongO = some W) :
    rising b.ms.length (-1) W = true ∧ b.can (inL W) = true ∧ W.length ≤ b.ms.length ∧ ∀ L, rising b.ms.length (-1) L = true → b.can (inL L) = true → L.length ≤ b.ms.length → fewer L W = false := by
  obtain ⟨d, hd, hg, hb⟩ := find_range _ _ _ h
  obtain ⟨suf, h1, h2, h3, h4, h5⟩ := (choose_spec b d [] (by simp [fromI])).1 W hg
  simp only [List.nil_append] at h1
  subst h1
  simp only [fromI, Int.zero_sub] at h3 h5
  refine ⟨h3, h4, by omega, fun L hr hc hl => ?_⟩
  simp only [fewer]
  by_cases e : L.length = W.length
  · rw [if_pos e]
    exact h5 L (by omega) hr (by simpa using hc)
  · rw [if_neg e]
    rw [decide_eq_false_iff_not]
    intro hlt
    have := (choose_spec b L.length [] (by simp [fromI])).2 (hb L.length (by omega)) L rfl (by simpa [fromI] using hr)
    rw [List.nil_append, hc] at this; cases this
theorem rise_len {m : Nat} {L : List Int} (h : rising m (-1) L = true) : L.length ≤ m := by
  obtain ⟨s, _, rfl⟩ := outs_of h
  exact outs_len _ _
theorem wrong_none {b : Bk} (hok : b.ok = true) (h : b.wrongO = none) (L : List Int) (hr : rising b.ms.length (-1) L = true) : b.can (inL L) = false := by
  simp only [Bk.wrongO] at h
  rw [List.findSome?_eq_none_iff] at h
  have hl := rise_len hr
  have := (choose_spec b L.length [] (by simp [fromI])).2 (h L.length (List.mem_range.2 (by omega))) L rfl (by simpa [fromI] using hr)
  simpa using this
theorem wrong_eq (b : Bk) : b.wrong = b.wrongR := by
  simp only [Bk.wrong, Bk.wrongR]
  cases hok : b.ok with
  | false => rfl
  | true =>
    simp only [if_true]
    cases hW : b.wrongO with
    | none =>
      have hf := wrong_none hok hW (outs (2 ^ b.ms.length - 1) b.ms.length) (outs_rise _ _)
      rw [can_congr hok (bs' := fun j => (2 ^ b.ms.length - 1).testBit j) fun j hj => outs_in hj] at hf
      rw [hf]; rfl
    | some W =>
      obtain ⟨w1, w2, w3, w4⟩ := wrong_spec hok hW
      have hfull : b.can (fun j => (2 ^ b.ms.length - 1).testBit j) = true := can_mono hok (fun k hk _ => by
        rw [Nat.testBit_two_pow_sub_one]; exact decide_eq_true hk) w2
      rw [hfull]
      simp only [if_true]
      obtain ⟨b1, b2, b3⟩ := best_spec hok hfull (2 ^ b.ms.length)
      congr 1
      refine fewer_total ?_ (w4 _ b1 b2 (rise_len b1))
      obtain ⟨s, hs, hsW⟩ := outs_of w1
      have := b3 s hs (by
        rw [← w2, ← hsW]
        exact (can_congr hok fun j hj => outs_in hj).symm)
      rw [hsW] at this; exact this
end Av
end

section
/- The law of what fits and of tallies that must be false: program and reference answer alike. -/
set_option linter.unusedSimpArgs false
set_option linter.unusedVariables false
namespace Av
open Go (IntKind BinOp UnOp)
theorem law5 (b : Bk) (hb : b.fit) (n0 n1 : Int) : ∃ h', dcall pr (.fn 5 [] []) [b.v, .agg [.int .i64 n0, .int .i64 n1]] H.emp = some (.bool true, h') := by
  refine law_of fn5 rfl ?_
  have a1 := c31 b hb n0 n1
  have a2 := c32 b hb n0 n1
  have a3 := c33 b hb
  have a4 := c34 b hb
  rw [← wrong_eq] at a4
  have hl : (b.wrong.1.length : Int) ≤ 9223372036854775807 := by
    unfold Bk.wrong
    split
    · rename_i hok
      have hlen := ok_len hok
      split
      · rename_i W hW
        have := (wrong_spec hok hW).2.2.1
        simp only; omega
      · simp
    · simp
  have a5 := c30 b.wrong.1 b.wrong.1 hl
  rw [decide_eq_true rfl] at a5
  generalize b.fitsQ n0 n1 = Z at *
  generalize b.wrong = W at *
  generalize iv W.1 = V at *
  have e1 : ∀ a b : Bool, eqk none (.bool a) (.bool b) = some (a == b) := fun _ _ => rfl
  simp [g5_macadamlaw03_StoneFits, g5_macadamlaw03_StoneFits_c, a1, a2, a3, a4, a5, e1, c23, results, rdRess, rdRes]
end Av
end

section
/- StoneFits returns true for every input, and its input reads as it did: no condition. -/
namespace Go.Proofs.YtpjhmbfpfbpciaaDoor.stoneFitsProof
open Go Go.Proofs Go.Proofs.YtpjhmbfpfbpciaaDoor Go.ChangeShapes Go.WideShapes Go.ChangeAt Go.RowKit Av
set_option linter.constructorNameAsVariable false
set_option linter.unusedVariables false
set_option maxRecDepth 20000

theorem contract (H : Type) (enc : TypeId × Value → H) (W : World) (base : Nat) (args : Array Value) (ds gs : List (DataW H)) (before : List MemPlace)
    (hval : ∀ (j : Nat) t v, Tryd.f5.params[j]? = some t → args[j]? = some v → Value.okWide Tryd.prog W .any base t v)
    (hW : DataW.Whole enc Tryd.prog Tryd.f5.params.toList Rows.stoneFitsSpec.vars false W args.toList ds gs before) (hL : Globs W) :
    Calls Tryd.prog 5 args W fun e W' => ∃ v, e = .returned v ∧ Rows.stoneFitsSpec.post enc Tryd.prog Tryd.f5 false true false false W args v W' := by
  have hW' := hW
  have hlt := fun p hp => hW.lt p hp
  obtain ⟨p, q, hA0, hV, rfl, hfz, hnd⟩ := hW
  have hA : DataW.TrodAll enc Tryd.prog W 0 (fun _ => true) true Tryd.f5.params.toList args.toList ds p := hA0
  rw [Tryd.params5] at hA hval
  obtain ⟨v0, vs0, d0, ds0, p0, q0, hargs, rfl, rfl, h0, r0⟩ := trodAll_cons hA
  obtain ⟨v1, vs1, d1, ds1, p1, q1, rfl, rfl, rfl, h1, r1⟩ := trodAll_cons r0
  obtain ⟨rfl, rfl, rfl⟩ := trodAll_nil r1
  obtain rfl : args = #[v0, v1] := by cases args; simp_all
  obtain ⟨rfl, rfl⟩ := trodVars_none hV
  obtain ⟨hs, ms, ls, w1, w2, w3, hVR0⟩ := book_open (hval 0 26 v0 rfl rfl) h0
  obtain ⟨b, hb, hbv⟩ := bk_of w1 w2 w3
  rw [hbv] at hVR0
  obtain ⟨ns1, z1, hVR1⟩ := arr_open u39 t39 (hval 1 39 v1 rfl rfl) h1
  obtain ⟨z1, _⟩ := z1
  obtain ⟨n10, n11, rfl⟩ : ∃ n10 n11, ns1 = [n10, n11] := by
    match ns1, z1 with
    | [n10, n11], _ => exact ⟨_, _, rfl⟩
  obtain ⟨h', hx⟩ := law5 b hb n10 n11
  refine (law_ok (start_ok hL.1 hL.2.1 hL.2.2.1 hL.2.2.2) (by omega) hx (.cons hVR0 (.cons hVR1 .nil))).mono fun e W' ⟨he, hg, hsame⟩ => ?_
  subst he
  simp only [List.append_nil, List.nil_append] at hW' hlt
  have hq : ∀ (i : MemPlace), i ∈ (p0 ++ (p1 ++ [])) → i.block < W.heap.size := fun i hi => hlt i (by simpa using hi)
  have harg : ∀ sp : Nat → Bool, (∀ p ∈ (p0 ++ (p1 ++ [])), sp p.block = true) → DataW.TrodAll enc Tryd.prog W' 0 sp true [26, 39] [v0, v1] [d0, d1] (p0 ++ (p1 ++ [])) := fun sp hsp =>
    (trodAll_cons_mk (trod_stay1 rec26 row26 h0 hsame (fun p hp => hq p (by simp [hp])) fun p hp => hsp p (by simp [hp])) (trodAll_cons_mk (trod_stay1 rec39 row39 h1 hsame (fun p hp => hq p (by simp [hp])) fun p hp => hsp p (by simp [hp])) trodAll_mk0))
  exact ⟨_, rfl, post_of_same (pa := (p0 ++ (p1 ++ []))) (pv := []) hW' (fun _ _ _ => trodAll_cons_mk (shut_bool Tryd.underlying4 _) trodAll_mk0) (fun sp hsp => harg sp (by simpa using hsp)) (fun _ _ => rfl) (by simp)
    (hg.frame _) hg.2.1 (ok_one (by kernel_rfl) rfl (okWide_bool_mk Tryd.underlying4 _))⟩

theorem met (os : Os) : laidMetH Tryd.prog Rows.stoneFitsRow.laid ((laidWorld os).forCall (fun _ _ => 0) ⟨#[], #[bookZ, .agg #[.int .i64 0, .int .i64 0]], []⟩).memory :=
  laidMetH_of_parts3 (fuel := 8) (laidMet_of_run' 8 (by kernel_rfl) (by kernel_rfl)) (by kernel_rfl) (by kernel_rfl)
theorem reads (os : Os) {H : Type} (enc : TypeId × Value → H) : ∃ places, DataW.whole enc Tryd.prog ((laidWorld os).forCall (fun _ _ => 0) ⟨#[], #[bookZ, .agg #[.int .i64 0, .int .i64 0]], []⟩).memory Tryd.f5.params.toList Rows.stoneFitsSpec.vars false (#[bookZ, .agg #[.int .i64 0, .int .i64 0]] : Array Value).toList 8 = some ([bookD, .agg [.lit (.int .i64 0), .lit (.int .i64 0)]], [], places) :=
  ⟨[], by kernel_rfl⟩
set_option maxRecDepth 100000 in
theorem lifted (os : Os) (started : os.Started) (H : Type) (enc : TypeId × Value → H) (F : Stop.Interp) :
    ReturnsInHanded {} Tryd.checked os 5 .any ((OpenSpec.ofChange Rows.stoneFitsSpec).preRow enc Tryd.prog Tryd.f5 Rows.stoneFitsRow.domain false Rows.stoneFitsRow.laid) (((OpenSpec.ofChange Rows.stoneFitsSpec).at F).post enc Tryd.prog Tryd.f5 false true false false) := by
  obtain ⟨places, hx⟩ := reads os enc
  refine returnsInHanded_of_row (C := Tryd.checked) (s := OpenSpec.ofChange Rows.stoneFitsSpec) ownK started (by kernel_rfl) Tryd.func5
    (witness_row_at (enc := enc) (C := Tryd.checked) false (laidWorld os) #[bookZ, .agg #[.int .i64 0, .int .i64 0]] rfl (by kernel_rfl) (by kernel_rfl) (by kernel_rfl)
      (OpenSpec.preRow_of_cond 8 hx (by kernel_rfl) (fun k hk => by cases hk) (by kernel_rfl) (met os))) ?_
  intro W base args ds gs before hval hW _ _ _ hL _ _
  exact contract H enc W base args ds gs before hval hW (globs_of hL)
theorem said : Rows.StoneFitsSaid :=
  OpenClaim.holds_of_cond 5 Tryd.f5 rfl rfl rfl rfl rfl rfl rfl ⟨rfl, rfl, rfl, rfl, rfl⟩ rfl rfl rfl rfl rfl (by kernel_rfl) Tryd.func5 (by kernel_rfl)
    (of_decide_eq_true (by kernel_rfl)) (by unfold Func.isWrapper; first | (rw [if_pos (by decide +kernel)]; kernel_rfl) | (rw [if_neg (by decide +kernel)]; exact ⟨rfl, rfl⟩))
    (fun os started H enc _ F => by rw [OpenClaim.pre_eq_preRow]; exact lifted os started H enc F)
theorem plain (f : FuncId) (fn : Func) (hf : Tryd.pinned.checked.prog.funcNamed "macadam/macadamlaw03.StoneFits" = some f) (hfn : Tryd.pinned.checked.prog.funcs[f]? = some fn) :
    false = Tryd.pinned.checked.prog.looks [] ∧ ∀ (j : Nat) t, fn.params[j]? = some t → Tryd.pinned.checked.prog.wantsStandIn t = false := by
  obtain rfl : f = 5 := Option.some.inj ((show Tryd.prog.funcNamed "macadam/macadamlaw03.StoneFits" = some 5 by kernel_rfl).symm.trans hf) |>.symm
  obtain rfl : fn = Tryd.f5 := (Option.some.inj (Tryd.func5.symm.trans hfn)).symm
  refine ⟨by kernel_rfl, fun j t ht => ?_⟩
  rw [Tryd.params5] at ht
  have hm : t ∈ [26, 39] := by simpa using Array.mem_of_getElem? ht
  simp only [List.mem_cons, List.not_mem_nil, or_false] at hm
  rcases hm with rfl | rfl
  · exact want26
  · exact want39
theorem card : Rows.StoneFitsCardSaid :=
  Claim7.holds_tied_plain_at .later [] _ _ _ _ said (fun _ h => by cases h) (by kernel_rfl) (fun _ h => by cases h) stoneFits_row_tie rfl ⟨rfl, rfl⟩ (by kernel_rfl) rfl plain (by kernel_rfl)
end Go.Proofs.YtpjhmbfpfbpciaaDoor.stoneFitsProof
namespace Go.Proofs.YtpjhmbfpfbpciaaDoor
theorem stoneFits_card : Rows.StoneFitsCardSaid := stoneFitsProof.card
end Go.Proofs.YtpjhmbfpfbpciaaDoor
end

