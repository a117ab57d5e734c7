/- StoneTrue returns true for every input, and its input reads as it did: no condition. -/
import Derived.Test.YtpjhmbfpfbpciaaDoorAvMH
import Derived.Test.YtpjhmbfpfbpciaaDoorAvMK
import Derived.KernelRfl
set_option linter.all false
set_option linter.unusedSectionVars false
set_option linter.unusedVariables false
set_option linter.unusedSimpArgs false
section
/- Contracts of the reference: All, Sooner, Fewer, Wrong. -/
set_option linter.unusedSimpArgs false
set_option linter.unusedVariables false
namespace Av
open Go (IntKind BinOp UnOp)
theorem c48 (s m : Nat) (hs : s < 64) (hm : m ≤ 6) : icall pr (.fn 48 [] []) [.int .i64 s, .int .i64 m] = some (.sl (iv (outs s m)) .shut) := by
  refine icall_fn fn48 rfl (by simp) rfl (by simp) ?_
  simp [g48_macadamref00_All, g48_macadamref00_All_c]
  refine wpr_seq (wpr_oblock (loop_up pr (fun k e h => e 0 = .int .i64 s ∧ e 1 = .int .i64 m ∧ e 6 = .int .i64 k ∧ ∃ kk, e 5 = .sl (iv (outs s k)) kk ∧ Opn h kk) m ?_ ?_ 0 _ _ (by omega) ⟨rfl, rfl, rfl, .exact, rfl, trivial⟩))
  · rintro k e h hk ⟨e0, e1, e6, kk, e5, hop⟩
    have hw : IntKind.wrap .i64 ((k : Int) + 1) = k + 1 := wrap_id (by omega) (by omega)
    have hkm : (k : Int) < m := by omega
    have c1 := c87 s k hs (by omega)
    have hsu := outs_succ s k
    have hol := outs_len s k
    have ht : s.testBit k = decide (s / 2 ^ k % 2 = 1) := Nat.testBit_eq_decide_div_mod_eq
    obtain ⟨k2, h2, ha, hb2, _⟩ := app_ok (bytes := 8) (new := [.int .i64 k]) (k2 := .exact) (sz := 1) (es := iv (outs s k)) hop (by simp) (iv_cell1 _) (by simp) (by simp; omega)
    simp at ha
    rw [ht] at c1
    by_cases hq : s / 2 ^ k % 2 = 1
    · rw [if_pos hq] at hsu
      rw [decide_eq_true hq] at c1
      simp [g48_macadamref00_All_l0, e0, e1, e6, e5, hk, c1, hw, ha, hb2, hsu]
    · rw [if_neg hq, List.append_nil] at hsu
      rw [decide_eq_false hq] at c1
      simp [g48_macadamref00_All_l0, e0, e1, e6, e5, hk, c1, hw, hsu, hop]
  · rintro e h ⟨e0, e1, e6, kk, e5, hop⟩
    simp [g48_macadamref00_All_l0, e0, e1, e6, e5, onB, onN, results, rdRess, rdRes]
/-- does a list come before another one? -/
def sooner : List Int → List Int → Bool
  | x :: l, y :: m => if x = y then sooner l m else decide (x < y)
  | [], [] => false
  | [], _ :: _ => true
  | _ :: _, [] => false
def fewer (l m : List Int) : Bool := if l.length = m.length then sooner l m else decide (l.length < m.length)
theorem c88 (l m : List Int) (hl : (l.length : Int) ≤ 9223372036854775807) : icall pr (.fn 88 [] []) [.sl (iv l) .shut, .sl (iv m) .shut] = some (.bool (sooner l m)) := by
  refine icall_fn fn88 rfl (by simp) (by simp) rfl ?_
  simp [g88_macadamref00_Sooner, g88_macadamref00_Sooner_c]
  have hiv : ∀ (q : List Int) (k : Nat) (h : k < q.length), (iv q)[k]? = some (.int .i64 q[k]) := fun q k h => by rw [iv_get, List.getElem?_eq_getElem h]; rfl
  refine wpr_seq (wpr_oblock (loop_up pr (fun k e h => e 0 = .sl (iv l) .shut ∧ e 1 = .sl (iv m) .shut ∧ e 5 = .int .i64 k ∧ sooner l m = sooner (l.drop k) (m.drop k)) (min l.length m.length) ?_ ?_ 0 _ _ (by omega) ⟨rfl, rfl, rfl, rfl⟩))
  · rintro k e h hk ⟨e0, e1, e5, hs⟩
    have hkl : k < l.length := by omega
    have hkm : k < m.length := by omega
    have hw : IntKind.wrap .i64 ((k : Int) + 1) = k + 1 := wrap_id (by omega) (by omega)
    rw [List.drop_eq_getElem_cons hkl, List.drop_eq_getElem_cons hkm, sooner] at hs
    by_cases hq : l[k] = m[k]
    · rw [if_pos hq] at hs
      simp [g88_macadamref00_Sooner_l0, e0, e1, e5, hkl, hkm, hq, hw, hs]
    · rw [if_neg hq] at hs
      simp [g88_macadamref00_Sooner_l0, e0, e1, e5, hkl, hkm, hq, hw, hs, onB, onN, results, rdRess, rdRes]
  · rintro e h ⟨e0, e1, e5, hs⟩
    by_cases hq : l.length ≤ m.length
    · have hmn : min l.length m.length = l.length := by omega
      rw [hmn] at e5 hs
      rw [List.drop_length] at hs
      have hs2 : sooner l m = decide (l.length < m.length) := by
        rw [hs]
        by_cases h2 : l.length = m.length
        · rw [h2, List.drop_length]; simp [sooner]
        · have h3 : l.length < m.length := by omega
          rw [List.drop_eq_getElem_cons h3]; simp [sooner, h3]
      simp [g88_macadamref00_Sooner_l0, e0, e1, e5, hs2, onB, onN, results, rdRess, rdRes]
    · have hmn : min l.length m.length = m.length := by omega
      rw [hmn] at e5 hs
      rw [List.drop_length] at hs
      have h3 : m.length < l.length := by omega
      have hs2 : sooner l m = false := by
        rw [hs, List.drop_eq_getElem_cons h3]; rfl
      have h4 : ¬ l.length < m.length := by omega
      simp [g88_macadamref00_Sooner_l0, e0, e1, e5, hs2, h3, h4, onB, onN, results, rdRess, rdRes]
theorem c50 (l m : List Int) (hl : (l.length : Int) ≤ 9223372036854775807) : icall pr (.fn 50 [] []) [.sl (iv l) .shut, .sl (iv m) .shut] = some (.bool (fewer l m)) := by
  refine icall_fn fn50 rfl (by simp) (by simp) rfl ?_
  have c1 := c88 l m hl
  by_cases hq : l.length = m.length
  · simp [g50_macadamref00_Fewer, g50_macadamref00_Fewer_c, results, rdRess, rdRes, hq, c1, fewer]
  · have hq' : ¬ (l.length : Int) = m.length := by omega
    simp [g50_macadamref00_Fewer, g50_macadamref00_Fewer_c, results, rdRess, rdRes, hq, hq', fewer]
/-- the best so far -/
def Bk.bestTo (b : Bk) : Nat → List Int
  | 0 => outs (2 ^ b.ms.length - 1) b.ms.length
  | k + 1 => if fewer (outs k b.ms.length) (b.bestTo k) && b.can (fun j => k.testBit j) then outs k b.ms.length else b.bestTo k
def Bk.wrongR (b : Bk) : List Int × Int := if b.ok then (if b.can (fun j => (2 ^ b.ms.length - 1).testBit j) then (b.bestTo (2 ^ b.ms.length), 0) else ([], 32)) else ([], 30)
theorem cart_can (b : Bk) (bs : Nat → Bool) : 0 < (cartL b bs zeros b.ms.length).length ↔ b.can bs = true := by
  simp only [cartL, List.length_map, Bk.can, Bk.all]
  cases b.carts bs zeros b.ms.length <;> simp
theorem bestTo_len (b : Bk) (k : Nat) : (b.bestTo k).length ≤ b.ms.length := by
  induction k with
  | zero => exact outs_len _ _
  | succ k ih => simp only [Bk.bestTo]; split; exact outs_len _ _; exact ih
theorem c34 (b : Bk) (hb : b.fit) : icall pr (.fn 34 [] []) [b.v] = some (.tup [.sl (iv b.wrongR.1) .shut, .int .i64 b.wrongR.2]) := by
  refine icall_fn fn34 rfl (by simp) (by simp) (by simp) ?_
  cases hok : b.ok with
  | false => simp [g34_macadamref03_Wrong, g34_macadamref03_Wrong_c, c18 b hb, hok, results, rdRess, rdRes, Bk.wrongR]
  | true =>
    have hlen := ok_len hok
    have h32 : 2 ^ b.ms.length ≤ 32 := Nat.le_trans (Nat.pow_le_pow_right (by omega) hlen.2.2) (by decide)
    have hp : 0 < 2 ^ b.ms.length := Nat.pow_pos (by omega)
    have hsh := bin_shl b.ms.length (by omega)
    have hfull := dc58 b hok (2 ^ b.ms.length - 1) (by omega) b.ms.length 0 zeros (by omega) lok_zeros
    have hcf := cart_can b (fun j => (2 ^ b.ms.length - 1).testBit j)
    have hall := c48 (2 ^ b.ms.length - 1) b.ms.length (by omega) (by omega)
    have hcast : ((2 ^ b.ms.length - 1 : Nat) : Int) = ((2 ^ b.ms.length : Nat) : Int) - 1 := by omega
    have hw1 : IntKind.wrap .i64 (((2 ^ b.ms.length : Nat) : Int) - 1) = ((2 ^ b.ms.length : Nat) : Int) - 1 := wrap_id (by omega) (by omega)
    have hR : b.wrongR = if b.can (fun j => (2 ^ b.ms.length - 1).testBit j) then (b.bestTo (2 ^ b.ms.length), 0) else ([], 32) := by simp only [Bk.wrongR, hok, if_true]
    have hz : iv (zeros.take 0) = [] := rfl
    rw [hz] at hfull
    rw [hcast] at hfull hall
    rw [hR]
    have hstep : ∀ k : Nat, k < 2 ^ b.ms.length → icall pr (.fn 58 [] []) [b.v, .int .i64 k, .sl [] .shut] = some (.sl (lv (cartL b (fun j => k.testBit j) zeros b.ms.length)) .shut) := fun k hk => by
      have := dc58 b hok k (by omega) b.ms.length 0 zeros (by omega) lok_zeros
      rw [hz] at this; exact this
    have hbest0 : b.bestTo 0 = outs (2 ^ b.ms.length - 1) b.ms.length := rfl
    generalize hN : 2 ^ b.ms.length = N at *
    cases hc : b.can (fun j => (N - 1).testBit j) with
    | false =>
      have h0 : (cartL b (fun j => (N - 1).testBit j) zeros b.ms.length).length = 0 := by
        have : ¬ 0 < (cartL b (fun j => (N - 1).testBit j) zeros b.ms.length).length := fun h => by rw [hcf.1 h] at hc; cases hc
        omega
      generalize hQ : cartL b (fun j => (N - 1).testBit j) zeros b.ms.length = Q at *
      simp [g34_macadamref03_Wrong, g34_macadamref03_Wrong_c, c18 b hb, hok, hsh, hw1, hfull, h0, results, rdRess, rdRes]
    | true =>
      have h0 : ¬ (cartL b (fun j => (N - 1).testBit j) zeros b.ms.length).length = 0 := by
        have := hcf.2 hc; omega
      generalize hQ : cartL b (fun j => (N - 1).testBit j) zeros b.ms.length = Q at *
      have h0' : ¬ Q = [] := fun h => h0 (by rw [h]; rfl)
      simp [g34_macadamref03_Wrong, g34_macadamref03_Wrong_c, c18 b hb, hok, hsh, hw1, hfull, hall, h0, h0']
      refine wpr_seq (wpr_oblock (loop_up pr (fun k e h => e 1 = b.bx ∧ e 5 = .int .i64 b.ms.length ∧ e 7 = .int .i64 k ∧ ∃ kk, e 6 = .sl (iv (b.bestTo k)) kk) N ?_ ?_ 0 _ _ (by omega) ⟨rfl, rfl, rfl, .shut, by simp [hbest0]⟩))
      · rintro k e h hk ⟨e1, e5, e7, kk, e6⟩
        have hw : IntKind.wrap .i64 ((k : Int) + 1) = k + 1 := wrap_id (by omega) (by omega)
        have hkN : (k : Int) < N := by omega
        have c1 := c48 k b.ms.length (by omega) (by omega)
        have hol := outs_len k b.ms.length
        have c2 := c50 (outs k b.ms.length) (b.bestTo k) (by omega)
        have c3 := hstep k hk
        have hcc := cart_can b (fun j => k.testBit j)
        have hbs : b.bestTo (k + 1) = if fewer (outs k b.ms.length) (b.bestTo k) && b.can (fun j => k.testBit j) then outs k b.ms.length else b.bestTo k := rfl
        rw [hbs]
        generalize outs k b.ms.length = O at *
        generalize b.bestTo k = B at *
        generalize cartL b (fun j => k.testBit j) zeros b.ms.length = D at *
        cases hf : fewer O B with
        | false =>
          rw [hf] at c2
          simp [g34_macadamref03_Wrong_l0, e1, e5, e7, e6, hsh, hkN, hk, c1, c2, hw]
        | true =>
          rw [hf] at c2
          cases hcn : b.can (fun j => k.testBit j) with
          | true =>
            have h1 : 0 < D.length := hcc.2 hcn
            simp [g34_macadamref03_Wrong_l0, e1, e5, e7, e6, hsh, hkN, hk, c1, c2, c3, hw, h1]
          | false =>
            have h1 : ¬ 0 < D.length := fun h => by rw [hcc.1 h] at hcn; cases hcn
            have h2 : D = [] := List.length_eq_zero_iff.1 (by omega)
            simp [g34_macadamref03_Wrong_l0, e1, e5, e7, e6, hsh, hkN, hk, c1, c2, c3, hw, h2]
      · rintro e h ⟨e1, e5, e7, kk, e6⟩
        simp [g34_macadamref03_Wrong_l0, e5, e7, e6, hsh, onB, onN, results, rdRess, rdRes]
end Av
end

section
/- The tallies that must be false: program and reference choose the same. -/
set_option linter.unusedSimpArgs false
set_option linter.unusedVariables false
namespace Av
theorem tr_mono {b : Bk} {bs bs' : Nat → Bool} (h : ∀ k, k < b.ms.length → bs k = true → bs' k = true) {l : List Int} (hl : Tr b bs l) : Tr b bs' l := by
  refine ⟨hl.lok, hl.nil, fun j hj => ?_, hl.fits⟩
  have hm : b.ms[j]? = some b.ms[j] := List.getElem?_eq_getElem hj
  exact (right_iff hm).2 (((right_iff hm).1 (hl.right j hj)).imp (h j hj) id)
theorem can_mono {b : Bk} (hok : b.ok = true) {bs bs' : Nat → Bool} (h : ∀ k, k < b.ms.length → bs k = true → bs' k = true) (hc : b.can bs = true) : b.can bs' = true := by
  obtain ⟨l, hl⟩ := (can_iff hok).1 hc
  exact (can_iff hok).2 ⟨l, tr_mono h hl⟩
theorem can_congr {b : Bk} (hok : b.ok = true) {bs bs' : Nat → Bool} (h : ∀ k, k < b.ms.length → bs k = bs' k) : b.can bs = b.can bs' := by
  rw [Bool.eq_iff_iff]
  exact ⟨can_mono hok fun k hk h1 => by rw [← h k hk]; exact h1, can_mono hok fun k hk h1 => by rw [h k hk]; exact h1⟩
theorem find_range {β : Type} (g : Nat → Option β) (N : Nat) (W : β) (h : (List.range N).findSome? g = some W) : ∃ n, n < N ∧ g n = some W ∧ ∀ j, j < n → g j = none := by
  induction N with
  | zero => simp at h
  | succ N ih =>
    cases hN : (List.range N).findSome? g with
    | some V =>
      rw [findSome_pre g N (N + 1) V (by omega) hN] at h
      cases h
      obtain ⟨n, h1, h2, h3⟩ := ih hN
      exact ⟨n, by omega, h2, h3⟩
    | none =>
      rw [findSome_succ g N hN] at h
      rw [List.findSome?_eq_none_iff] at hN
      exact ⟨N, by omega, h, fun j hj => hN j (List.mem_range.2 hj)⟩
theorem from_app (l : List Int) (n : Int) : fromI (l ++ [n]) = n + 1 := by
  cases l with
  | nil => simp [fromI]
  | cons x t => simp [fromI]
theorem choose_spec (b : Bk) : ∀ (d : Nat) (l : List Int), 0 ≤ fromI l →
    (∀ W, b.choose d l = some W → ∃ suf, W = l ++ suf ∧ suf.length = d ∧ rising b.ms.length (fromI l - 1) suf = true ∧ b.can (inL W) = true ∧
      ∀ s', s'.length = d → rising b.ms.length (fromI l - 1) s' = true → b.can (inL (l ++ s')) = true → sooner s' suf = false) ∧
    (b.choose d l = none → ∀ s', s'.length = d → rising b.ms.length (fromI l - 1) s' = true → b.can (inL (l ++ s')) = false) := by
  intro d
  induction d with
  | zero =>
    intro l h0
    constructor
    · intro W hW
      simp only [Bk.choose] at hW
      split at hW
      · cases hW
        rename_i hc
        exact ⟨[], by simp, rfl, rfl, hc, fun s' hs _ _ => by rw [List.length_eq_zero_iff.1 hs]; rfl⟩
      · cases hW
    · intro hN s' hs _
      simp only [Bk.choose] at hN
      split at hN
      · cases hN
      · rename_i hc
        rw [List.length_eq_zero_iff.1 hs, List.append_nil]
        simpa using hc
  | succ d ih =>
    intro l h0
    have hex : ∀ s', s'.length = d + 1 → rising b.ms.length (fromI l - 1) s' = true → ∃ (n : Nat) (t : List Int), s' = (n : Int) :: t ∧ t.length = d ∧ n < b.ms.length ∧ fromI l ≤ n ∧ rising b.ms.length n t = true := by
      intro s' hs hr
      cases s' with
      | nil => simp at hs
      | cons x t =>
        simp only [rising, Bool.and_eq_true, decide_eq_true_eq] at hr
        obtain ⟨n, rfl⟩ := Int.eq_ofNat_of_zero_le (show 0 ≤ x by omega)
        exact ⟨n, t, rfl, by simpa using hs, by omega, by omega, hr.2⟩
    have hfr : ∀ n : Nat, fromI (l ++ [(n : Int)]) - 1 = n := fun n => by rw [from_app]; omega
    constructor
    · intro W hW
      obtain ⟨n, hn, hg, hb⟩ := find_range _ _ _ hW
      split at hg
      · rename_i hfn
        obtain ⟨suf, h1, h2, h3, h4, h5⟩ := (ih (l ++ [(n : Int)]) (by rw [from_app]; omega)).1 W hg
        rw [hfr] at h3 h5
        refine ⟨(n : Int) :: suf, by simp [h1], by simp [h2], ?_, h4, fun s' hs hr hc => ?_⟩
        · simp only [rising, h3, Bool.and_true, decide_eq_true_eq]; omega
        · obtain ⟨n', t, rfl, ht, hn', hf', hr'⟩ := hex s' hs hr
          have e1 : l ++ (n' : Int) :: t = l ++ [(n' : Int)] ++ t := by simp
          simp only [sooner]
          by_cases hq : n' = n
          · subst hq
            rw [if_pos rfl]
            exact h5 t ht hr' (by rw [← e1]; exact hc)
          · rw [if_neg (by omega)]
            by_cases hlt : n' < n
            · have hnone := hb n' hlt
              simp only [hf', if_true] at hnone
              have := (ih (l ++ [(n' : Int)]) (by rw [from_app]; omega)).2 hnone t ht (by rw [hfr]; exact hr')
              rw [e1, this] at hc; cases hc
            · exact decide_eq_false (by omega)
      · cases hg
    · intro hN s' hs hr
      obtain ⟨n', t, rfl, ht, hn', hf', hr'⟩ := hex s' hs hr
      have e1 : l ++ (n' : Int) :: t = l ++ [(n' : Int)] ++ t := by simp
      simp only [Bk.choose] at hN
      rw [List.findSome?_eq_none_iff] at hN
      have hnone := hN n' (List.mem_range.2 hn')
      simp only [hf', if_true] at hnone
      have := (ih (l ++ [(n' : Int)]) (by rw [from_app]; omega)).2 hnone t ht (by rw [hfr]; exact hr')
      rw [e1]; exact this

theorem rising_iff (below : Int) (L : List Int) : ∀ last, rising below last L = true ↔ L.Pairwise (· < ·) ∧ ∀ x ∈ L, last < x ∧ x < below := by
  induction L with
  | nil => intro last; simp [rising]
  | cons x l ih =>
    intro last
    simp only [rising, Bool.and_eq_true, decide_eq_true_eq, ih, List.pairwise_cons, List.mem_cons, forall_eq_or_imp]
    constructor
    · rintro ⟨h1, h2, h3⟩
      exact ⟨⟨fun y hy => (h3 y hy).1, h2⟩, h1, fun y hy => ⟨by have := (h3 y hy).1; omega, (h3 y hy).2⟩⟩
    · rintro ⟨⟨h1, h2⟩, h3, h4⟩
      exact ⟨h3, h2, fun y hy => ⟨h1 y hy, (h4 y hy).2⟩⟩
theorem sorted_ext : ∀ (l m : List Int), l.Pairwise (· < ·) → m.Pairwise (· < ·) → (∀ x, x ∈ l ↔ x ∈ m) → l = m := by
  intro l
  induction l with
  | nil =>
    intro m _ _ h
    cases m with
    | nil => rfl
    | cons y m => exact absurd ((h y).2 (by simp)) (by simp)
  | cons x l ih =>
    intro m h1 h2 h
    cases m with
    | nil => exact absurd ((h x).1 (by simp)) (by simp)
    | cons y m =>
      rw [List.pairwise_cons] at h1 h2
      have hxy : x = y := by
        have hx := (h x).1 (by simp)
        have hy := (h y).2 (by simp)
        rcases List.mem_cons.1 hx with rfl | hx
        · rfl
        · rcases List.mem_cons.1 hy with rfl | hy
          · rfl
          · have := h2.1 x hx
            have := h1.1 y hy
            omega
      subst hxy
      congr 1
      refine ih m h1.2 h2.2 fun z => ?_
      constructor
      · intro hz
        rcases List.mem_cons.1 ((h z).1 (by simp [hz])) with rfl | h3
        · exact absurd (h1.1 z hz) (by omega)
        · exact h3
      · intro hz
        rcases List.mem_cons.1 ((h z).2 (by simp [hz])) with rfl | h3
        · exact absurd (h2.1 z hz) (by omega)
        · exact h3
theorem outs_sorted (s k : Nat) : (outs s k).Pairwise (· < ·) := by
  unfold outs
  refine List.Pairwise.map _ (fun a b h => by simpa using h) ?_
  exact List.Pairwise.filter _ List.pairwise_lt_range
theorem outs_rise (s k : Nat) : rising k (-1) (outs s k) = true := by
  rw [rising_iff]
  refine ⟨outs_sorted s k, fun x hx => ?_⟩
  obtain ⟨c, h1, rfl, _⟩ := (outs_mem s k x).1 hx
  omega
theorem outs_in {s k j : Nat} (hj : j < k) : inL (outs s k) j = s.testBit j := by
  rw [Bool.eq_iff_iff]
  simp only [inL, decide_eq_true_eq, outs_mem]
  constructor
  · rintro ⟨c, _, h2, h3⟩
    have : c = j := by omega
    subst this; exact h3
  · intro h; exact ⟨j, hj, rfl, h⟩
theorem setTo_bit (l : List Int) (k c : Nat) : (setTo l k).testBit c = true ↔ ∃ j, j < k ∧ (l.getD j 0).toNat = c := by
  induction k with
  | zero => simp [setTo]
  | succ k ih =>
    simp only [setTo, Nat.testBit_or, Bool.or_eq_true, ih, Nat.testBit_two_pow, decide_eq_true_eq]
    constructor
    · rintro (⟨j, h1, h2⟩ | h)
      · exact ⟨j, by omega, h2⟩
      · exact ⟨k, by omega, h⟩
    · rintro ⟨j, h1, h2⟩
      by_cases hq : j = k
      · subst hq; exact .inr h2
      · exact .inl ⟨j, by omega, h2⟩
theorem setTo_lt2 (l : List Int) (m k : Nat) (h : ∀ j, j < k → (l.getD j 0).toNat < m) : setTo l k < 2 ^ m := by
  induction k with
  | zero => exact Nat.pow_pos (by omega)
  | succ k ih => exact Nat.or_lt_two_pow (ih fun j hj => h j (by omega)) (Nat.pow_lt_pow_right (by omega) (h k (by omega)))
/-- a rising list is a set's -/
theorem outs_of {L : List Int} {m : Nat} (h : rising m (-1) L = true) : ∃ s, s < 2 ^ m ∧ outs s m = L := by
  rw [rising_iff] at h
  have hg : ∀ j, j < L.length → L.getD j 0 ∈ L := fun j hj => by
    rw [List.getD_eq_getElem?_getD, List.getElem?_eq_getElem hj]; exact List.getElem_mem _
  refine ⟨setTo L L.length, setTo_lt2 L m _ (fun j hj => by have := h.2 _ (hg j hj); omega), ?_⟩
  refine sorted_ext _ _ (outs_sorted _ _) h.1 fun x => ?_
  rw [outs_mem]
  constructor
  · rintro ⟨c, h1, rfl, h3⟩
    obtain ⟨j, h4, h5⟩ := (setTo_bit L _ c).1 h3
    have := h.2 _ (hg j h4)
    have e : L.getD j 0 = (c : Int) := by omega
    rw [← e]; exact hg j h4
  · intro hx
    have := h.2 x hx
    obtain ⟨j, hj, hjx⟩ := List.mem_iff_getElem.1 hx
    refine ⟨x.toNat, by omega, by omega, (setTo_bit L _ _).2 ⟨j, hj, ?_⟩⟩
    rw [List.getD_eq_getElem?_getD, List.getElem?_eq_getElem hj, hjx]; rfl

theorem sooner_trans : ∀ (A B C : List Int), sooner A B = true → sooner B C = true → sooner A C = true := by
  intro A
  induction A with
  | nil =>
    intro B C h1 h2
    cases B with
    | nil => exact absurd h1 (by simp [sooner])
    | cons y B => cases C with
      | nil => exact absurd h2 (by simp [sooner])
      | cons z C => rfl
  | cons x A ih =>
    intro B C h1 h2
    cases B with
    | nil => exact absurd h1 (by simp [sooner])
    | cons y B => cases C with
      | nil => exact absurd h2 (by simp [sooner])
      | cons z C =>
        simp only [sooner] at h1 h2 ⊢
        by_cases e1 : x = y
        · subst e1
          rw [if_pos rfl] at h1
          by_cases e2 : x = z
          · subst e2
            rw [if_pos rfl] at h2 ⊢
            exact ih B C h1 h2
          · rw [if_neg e2] at h2 ⊢; exact h2
        · rw [if_neg e1] at h1
          by_cases e2 : y = z
          · subst e2; rw [if_neg e1]; exact h1
          · rw [if_neg e2] at h2
            simp only [decide_eq_true_eq] at h1 h2
            rw [if_neg (by omega), decide_eq_true (by omega)]
theorem sooner_total : ∀ (A B : List Int), sooner A B = false → sooner B A = false → A = B := by
  intro A
  induction A with
  | nil => intro B h1 h2; cases B with
    | nil => rfl
    | cons y B => exact absurd h1 (by simp [sooner])
  | cons x A ih => intro B h1 h2; cases B with
    | nil => exact absurd h2 (by simp [sooner])
    | cons y B =>
      simp only [sooner] at h1 h2
      by_cases e : x = y
      · subst e
        rw [if_pos rfl] at h1 h2
        rw [ih B h1 h2]
      · rw [if_neg e] at h1
        rw [if_neg (fun h => e h.symm)] at h2
        simp only [decide_eq_false_iff_not] at h1 h2
        omega
theorem fewer_trans {A B C : List Int} (h1 : fewer A B = true) (h2 : fewer B C = true) : fewer A C = true := by
  simp only [fewer] at h1 h2 ⊢
  by_cases e1 : A.length = B.length
  · rw [if_pos e1] at h1
    by_cases e2 : B.length = C.length
    · rw [if_pos e2] at h2
      rw [if_pos (e1.trans e2)]; exact sooner_trans A B C h1 h2
    · rw [if_neg e2] at h2
      rw [if_neg (by omega)]
      simp only [decide_eq_true_eq] at h2 ⊢; omega
  · rw [if_neg e1] at h1
    simp only [decide_eq_true_eq] at h1
    by_cases e2 : B.length = C.length
    · rw [if_neg (by omega), decide_eq_true (by omega)]
    · rw [if_neg e2] at h2
      simp only [decide_eq_true_eq] at h2
      rw [if_neg (by omega), decide_eq_true (by omega)]
theorem fewer_total {A B : List Int} (h1 : fewer A B = false) (h2 : fewer B A = false) : A = B := by
  simp only [fewer] at h1 h2
  by_cases e : A.length = B.length
  · rw [if_pos e] at h1
    rw [if_pos e.symm] at h2
    exact sooner_total A B h1 h2
  · rw [if_neg e] at h1
    rw [if_neg (fun h => e h.symm)] at h2
    simp only [decide_eq_false_iff_not] at h1 h2
    omega
theorem fewer_irrefl (A : List Int) : fewer A A = false := by
  have : ∀ A : List Int, sooner A A = false := by
    intro A
    induction A with
    | nil => rfl
    | cons x A ih => simp [sooner, ih]
  simp [fewer, this]
/-- what the reference keeps -/
theorem best_spec {b : Bk} (hok : b.ok = true) (hc : b.can (fun j => (2 ^ b.ms.length - 1).testBit j) = true) : ∀ k,
    rising b.ms.length (-1) (b.bestTo k) = true ∧ b.can (inL (b.bestTo k)) = true ∧ ∀ s, s < k → b.can (fun j => s.testBit j) = true → fewer (outs s b.ms.length) (b.bestTo k) = false := by
  intro k
  induction k with
  | zero => exact ⟨outs_rise _ _, by rw [← hc]; exact can_congr hok fun j hj => outs_in hj, by omega⟩
  | succ k ih =>
    obtain ⟨i1, i2, i3⟩ := ih
    simp only [Bk.bestTo]
    split
    · rename_i hq
      simp only [Bool.and_eq_true] at hq
      refine ⟨outs_rise _ _, by rw [← hq.2]; exact can_congr hok fun j hj => outs_in hj, fun s hs hcs => ?_⟩
      by_cases hk : s = k
      · subst hk; exact fewer_irrefl _
      · rw [← Bool.not_eq_true]
        intro h
        have := fewer_trans h hq.1
        rw [i3 s (by omega) hcs] at this; cases this
    · rename_i hq
      refine ⟨i1, i2, fun s hs hcs => ?_⟩
      by_cases hk : s = k
      · subst hk
        rw [hcs, Bool.and_true] at hq
        simpa using hq
      · exact i3 s (by omega) hcs
/-- what the program chooses -/
theorem wrong_spec {b : Bk} (hok : b.ok = true) {W : List Int} (h : b.wrongO = some W) :
    rising b.ms.length (-1) W = true ∧ b.can (inL W) = true ∧ W.length ≤ b.ms.length ∧ ∀ L, rising b.ms.length (-1) L = true → b.can (inL L) = true → L.length ≤ b.ms.length → fewer L W = false := by
  obtain ⟨d, hd, hg, hb⟩ := find_range _ _ _ h
  obtain ⟨suf, h1, h2, h3, h4, h5⟩ := (choose_spec b d [] (by simp [fromI])).1 W hg
  simp only [List.nil_append] at h1
  subst h1
  simp only [fromI, Int.zero_sub] at h3 h5
  refine ⟨h3, h4, by omega, fun L hr hc hl => ?_⟩
  simp only [fewer]
  by_cases e : L.length = W.length
  · rw [if_pos e]
    exact h5 L (by omega) hr (by simpa using hc)
  · rw [if_neg e]
    rw [decide_eq_false_iff_not]
    intro hlt
    have := (choose_spec b L.length [] (by simp [fromI])).2 (hb L.length (by omega)) L rfl (by simpa [fromI] using hr)
    rw [List.nil_append, hc] at this; cases this
theorem rise_len {m : Nat} {L : List Int} (h : rising m (-1) L = true) : L.length ≤ m := by
  obtain ⟨s, _, rfl⟩ := outs_of h
  exact outs_len _ _
theorem wrong_none {b : Bk} (hok : b.ok = true) (h : b.wrongO = none) (L : List Int) (hr : rising b.ms.length (-1) L = true) : b.can (inL L) = false := by
  simp only [Bk.wrongO] at h
  rw [List.findSome?_eq_none_iff] at h
  have hl := rise_len hr
  have := (choose_spec b L.length [] (by simp [fromI])).2 (h L.length (List.mem_range.2 (by omega))) L rfl (by simpa [fromI] using hr)
  simpa using this
theorem wrong_eq (b : Bk) : b.wrong = b.wrongR := by
  simp only [Bk.wrong, Bk.wrongR]
  cases hok : b.ok with
  | false => rfl
  | true =>
    simp only [if_true]
    cases hW : b.wrongO with
    | none =>
      have hf := wrong_none hok hW (outs (2 ^ b.ms.length - 1) b.ms.length) (outs_rise _ _)
      rw [can_congr hok (bs' := fun j => (2 ^ b.ms.length - 1).testBit j) fun j hj => outs_in hj] at hf
      rw [hf]; rfl
    | some W =>
      obtain ⟨w1, w2, w3, w4⟩ := wrong_spec hok hW
      have hfull : b.can (fun j => (2 ^ b.ms.length - 1).testBit j) = true := can_mono hok (fun k hk _ => by
        rw [Nat.testBit_two_pow_sub_one]; exact decide_eq_true hk) w2
      rw [hfull]
      simp only [if_true]
      obtain ⟨b1, b2, b3⟩ := best_spec hok hfull (2 ^ b.ms.length)
      congr 1
      refine fewer_total ?_ (w4 _ b1 b2 (rise_len b1))
      obtain ⟨s, hs, hsW⟩ := outs_of w1
      have := b3 s hs (by
        rw [← w2, ← hsW]
        exact (can_congr hok fun j hj => outs_in hj).symm)
      rw [hsW] at this; exact this
end Av
end

section
/- A book in which a load was told otherwise; rows as cells of memory. -/
set_option linter.unusedSimpArgs false
set_option linter.unusedVariables false
namespace Av
open Go (IntKind BinOp UnOp)
def Mv.told (m : Mv) (n : Int) : Mv := ⟨m.f, m.t, m.c, n⟩
def toldAt : List Mv → Nat → Int → List Mv
  | [], _, _ => []
  | m :: ms, 0, n => m.told n :: ms
  | m :: ms, k + 1, n => m :: toldAt ms k n
theorem told_len (ms : List Mv) (k n) : (toldAt ms k n).length = ms.length := by
  induction ms generalizing k with
  | nil => rfl
  | cons m ms ih => cases k <;> simp [toldAt, ih]
theorem told_get (ms : List Mv) (k n) (j : Nat) : (toldAt ms k n)[j]? = if j = k then (ms[j]?).map (·.told n) else ms[j]? := by
  induction ms generalizing k j with
  | nil => simp [toldAt]
  | cons m ms ih =>
    cases k with
    | zero => cases j <;> simp [toldAt]
    | succ k => cases j <;> simp [toldAt, ih]
def Bk.told (b : Bk) (k : Nat) (n : Int) : Bk := ⟨b.hs, toldAt b.ms k n, b.l0, b.l1, b.l2, b.l3⟩
theorem told_ok {b : Bk} (h : b.ok = true) (k : Nat) {n : Int} (hn : 0 ≤ n ∧ n ≤ 6) : (b.told k n).ok = true := by
  simp only [Bk.ok, Bool.and_eq_true] at h
  simp only [Bk.ok, Bool.and_eq_true, Bk.told, told_len]
  refine ⟨⟨h.1.1, ?_⟩, h.2⟩
  have h2 := List.all_eq_true.1 h.1.2
  rw [List.all_eq_true]
  intro m hm
  obtain ⟨j, hj⟩ := List.mem_iff_getElem?.1 hm
  rw [told_get] at hj
  split at hj
  · obtain ⟨m0, h0, rfl⟩ := Option.map_eq_some_iff.1 hj
    have := h2 m0 (List.mem_of_getElem? h0)
    simp only [Mv.ok, Bool.and_eq_true, decide_eq_true_eq] at this
    show (isEnd b.hs.length m0.f && isEnd b.hs.length m0.t && decide (m0.f ≠ m0.t ∧ (0 ≤ m0.c ∧ m0.c ≤ 3) ∧ 0 ≤ n ∧ n ≤ 6)) = true
    simp only [Bool.and_eq_true, decide_eq_true_eq]
    exact ⟨this.1, this.2.1, this.2.2.1, hn⟩
  · exact h2 m (List.mem_of_getElem? hj)
/-- as cells -/
def mc (ms : List Mv) : List Int := ms.flatMap fun m => [m.f, m.t, m.c, m.n]
theorem mc_len (ms : List Mv) : (mc ms).length = ms.length * 4 := by
  induction ms with
  | nil => rfl
  | cons m ms ih => simp only [mc, List.flatMap_cons, List.length_append, List.length_cons, List.length_nil] at ih ⊢; omega
theorem mvs_cells (ms : List Mv) : (mvs ms).flatMap AV.cells = iv (mc ms) := by
  induction ms with
  | nil => rfl
  | cons m ms ih =>
    have : mvs (m :: ms) = m.v :: mvs ms := rfl
    rw [this, List.flatMap_cons, ih]; rfl
theorem chunk_mc (ms : List Mv) : chunk 4 ms.length (iv (mc ms)) = mvs ms := by
  induction ms with
  | nil => rfl
  | cons m ms ih =>
    have : iv (mc (m :: ms)) = .int .i64 m.f :: .int .i64 m.t :: .int .i64 m.c :: .int .i64 m.n :: iv (mc ms) := rfl
    rw [this]
    simp only [List.length_cons, chunk]
    rw [if_neg (by omega)]
    simp only [List.take_succ_cons, List.take_zero, List.drop_succ_cons, List.drop_zero, ih]
    rfl
theorem mc_set (ms : List Mv) (k : Nat) (n : Int) (h : k < ms.length) : (mc ms).set (k * 4 + 3) n = mc (toldAt ms k n) := by
  induction ms generalizing k with
  | nil => simp at h
  | cons m ms ih =>
    cases k with
    | zero => rfl
    | succ k =>
      have h1 : mc (m :: ms) = m.f :: m.t :: m.c :: m.n :: mc ms := rfl
      rw [h1, show (k + 1) * 4 + 3 = k * 4 + 3 + 1 + 1 + 1 + 1 by omega]
      simp only [List.set_cons_succ, ih k (by simpa using h)]
      rfl
theorem mvs_cell4 (ms : List Mv) : (mvs ms).all (fun v => decide (v.cells.length = 4) && v.flats) = true := by
  induction ms with
  | nil => rfl
  | cons m ms ih => simp [mvs, AV.flats]
/-! heaps -/
def hc (hs : List Hp) : List Int := hs.flatMap fun x => [x.a, x.b, x.c, x.d]
theorem hc_len (hs : List Hp) : (hc hs).length = hs.length * 4 := by
  induction hs with
  | nil => rfl
  | cons m ms ih => simp only [hc, List.flatMap_cons, List.length_append, List.length_cons, List.length_nil] at ih ⊢; omega
theorem hvs_cells (hs : List Hp) : (hvs hs).flatMap AV.cells = iv (hc hs) := by
  induction hs with
  | nil => rfl
  | cons m ms ih =>
    have : hvs (m :: ms) = m.v :: hvs ms := rfl
    rw [this, List.flatMap_cons, ih]; rfl
theorem chunk_hc (hs : List Hp) : chunk 4 hs.length (iv (hc hs)) = hvs hs := by
  induction hs with
  | nil => rfl
  | cons m ms ih =>
    have : iv (hc (m :: ms)) = .int .i64 m.a :: .int .i64 m.b :: .int .i64 m.c :: .int .i64 m.d :: iv (hc ms) := rfl
    rw [this]
    simp only [List.length_cons, chunk]
    rw [if_neg (by omega)]
    simp only [List.take_succ_cons, List.take_zero, List.drop_succ_cons, List.drop_zero, ih]
    rfl
theorem hvs_cell4 (hs : List Hp) : (hvs hs).all (fun v => decide (v.cells.length = 4) && v.flats) = true := by
  induction hs with
  | nil => rfl
  | cons m ms ih => simp [hvs, AV.flats]
end Av
end

section
/- Contracts: Pick, From, freed, mends. -/
set_option linter.unusedSimpArgs false
set_option linter.unusedVariables false
namespace Av
open Go (IntKind BinOp UnOp)
theorem c38b (n m : Int) (hm : m ≤ 9223372036854775807) : icall pr (.fn 38 [] []) [.int .i64 n, .int .i64 m] = some (.int .i64 (wrapI n m)) := by
  refine icall_fn fn38 rfl rfl rfl rfl ?_
  by_cases h1 : m ≤ 0
  · simp [g38_macadamref00_Wrap, g38_macadamref00_Wrap_c, results, rdRess, rdRes, h1, wrapI]
  · have h0 : m ≠ 0 := by omega
    have h2 : n.tmod m < m := Int.tmod_lt_of_pos n (by omega)
    have h3 : -m < n.tmod m := by have := Int.lt_tmod_of_pos n (show 0 < m by omega); omega
    have ht := tmod_wrap n m (by omega)
    have hW : wrapI n m = n % m := by rw [wrapI, if_neg h1]
    rw [hW, ← ht]
    by_cases h4 : n.tmod m < 0
    · have hw : IntKind.wrap .i64 (n.tmod m + m) = n.tmod m + m := wrap_id (by omega) (by omega)
      simp [g38_macadamref00_Wrap, g38_macadamref00_Wrap_c, results, rdRess, rdRes, h1, h0, h4, hw]
    · simp [g38_macadamref00_Wrap, g38_macadamref00_Wrap_c, results, rdRess, rdRes, h1, h0, h4]
def pickI (l : List Int) (n : Int) : Int := if l.length = 0 then 0 else l.getD (wrapI n l.length).toNat 0
theorem c86 (l : List Int) (hl : (l.length : Int) ≤ 9223372036854775807) (n : Int) : icall pr (.fn 86 [] []) [.sl (iv l) .shut, .int .i64 n] = some (.int .i64 (pickI l n)) := by
  refine icall_fn fn86 rfl rfl (by simp) rfl ?_
  have c1 := c38b n l.length hl
  cases hq : l.length with
  | zero =>
    have hq' : (l.length : Int) = 0 := by omega
    simp [g86_macadamref00_Pick, g86_macadamref00_Pick_c, results, rdRess, rdRes, hq, hq', pickI]
  | succ m =>
    have hq' : ¬ (l.length : Int) = 0 := by omega
    have w1 := wrapI_bd n (m := (l.length : Int)) (by omega)
    obtain ⟨k, hk⟩ := toInt w1.1
    rw [hk] at w1 c1
    have hk' : k < l.length := by omega
    have hne : l ≠ [] := by rintro rfl; simp at hq
    have hP : pickI l n = l[k] := by
      rw [pickI, if_neg (by omega), hk]
      simp [hk']
    rw [hP]
    simp [g86_macadamref00_Pick, g86_macadamref00_Pick_c, results, rdRess, rdRes, hne, c1, hk']
/-- what is told instead -/
def Bk.freed (b : Bk) (l : List Int) (f : Nat → Int) : Nat → Bk
  | 0 => b
  | k + 1 => (b.freed l f k).told (l.getD k 0).toNat (f k)
theorem freed_hs (b : Bk) (l f k) : (b.freed l f k).hs = b.hs := by
  induction k with
  | zero => rfl
  | succ k ih => exact ih
theorem freed_lies (b : Bk) (l f k) : (b.freed l f k).l0 = b.l0 ∧ (b.freed l f k).l1 = b.l1 ∧ (b.freed l f k).l2 = b.l2 ∧ (b.freed l f k).l3 = b.l3 := by
  induction k with
  | zero => exact ⟨rfl, rfl, rfl, rfl⟩
  | succ k ih => exact ih
theorem freed_ms (b : Bk) (l f k) : (b.freed l f k).ms.length = b.ms.length := by
  induction k with
  | zero => rfl
  | succ k ih => exact (told_len _ _ _).trans ih
theorem c49 (b : Bk) (hb : b.fit) (hm : b.ms.length ≤ 1000) (l bits : List Int) (hl : ∀ x ∈ l, 0 ≤ x ∧ x < b.ms.length) (hll : (l.length : Int) ≤ 9223372036854775807) (hbl : (bits.length : Int) ≤ 9223372036854775807) :
    icall pr (.fn 49 [] []) [b.v, .sl (iv l) .shut, .sl (iv bits) .shut] = some (b.freed l (fun k => wrapI (pickI bits k) 7) l.length).v := by
  refine icall_fn fn49 rfl rfl (by simp) (by simp) ?_
  generalize hf : (fun k : Nat => wrapI (pickI bits k) 7) = f
  have hfk : ∀ k : Nat, wrapI (pickI bits k) 7 = f k := fun k => by rw [← hf]
  cases hms : b.ms with
  | nil =>
    have hl0 : l = [] := by
      cases l with
      | nil => rfl
      | cons x l => have := hl x (by simp); simp [hms] at this; omega
    subst hl0
    have hi : iv [] = [] := rfl
    have hmv : mvs [] = [] := rfl
    have := appM_nil H.emp 4 32 .shut
    simp [g49_macadamlaw03_freed, g49_macadamlaw03_freed_c, hms, hmv, this]
    simp [r_loop, g49_macadamlaw03_freed_l0, results, rdRess, rdRes, Bk.freed, hms, hmv, oblock]
  | cons m0 ms0 =>
  have hm0 : b.ms.length ≠ 0 := by rw [hms]; simp
  have ha := appM_new (h := H.emp) (sz := 4) (bytes := 32) (new := mvs b.ms) (k2 := .shut) (by simpa using hm0) (mvs_cell4 _) (by simp; omega)
  simp only [mvs_cells, mvs_len, emp_n] at ha
  have hcm := chunk_mc
  simp [g49_macadamlaw03_freed, g49_macadamlaw03_freed_c, ha]
  refine wpr_seq (wpr_oblock (loop_up pr (fun k e h => e 1 = .sl (iv l) .shut ∧ e 2 = .sl (iv bits) .shut ∧ e 8 = .int .i64 k ∧ e 6 = .lbox 0 [.sl [] .exact, .sl [] .exact, .int .i64 0, .int .i64 0, .int .i64 0, .int .i64 0] ∧
      e 7 = .lbox 0 [.sl (hvs b.hs) .shut, .msl 0 0 b.ms.length 4, .int .i64 b.l0, .int .i64 b.l1, .int .i64 b.l2, .int .i64 b.l3] ∧ h.get 0 = some (.cells (iv (mc (b.freed l f k).ms)))) l.length ?_ ?_ 0 _ _ (by omega) ⟨rfl, rfl, rfl, rfl, rfl, rfl⟩))
  · rintro k e h hk ⟨e1, e2, e8, e6, e7, hh⟩
    have hw : IntKind.wrap .i64 ((k : Int) + 1) = k + 1 := wrap_id (by omega) (by omega)
    have c1 := c86 bits hbl k
    have c2 := c38 (pickI bits k) 7 (by omega)
    rw [hfk] at c2
    have hx := hl l[k] (List.getElem_mem hk)
    obtain ⟨x, hx2⟩ := toInt hx.1
    rw [hx2] at hx
    have hxl : x < b.ms.length := by omega
    have hfm := freed_ms b l f k
    have hlen : (mc (b.freed l f k).ms).length = b.ms.length * 4 := by rw [mc_len, hfm]
    have hset := mc_set (b.freed l f k).ms x (f k) (by omega)
    have hsp := splice_iv1 (l := mc (b.freed l f k).ms) (k := x * 4 + 3) (f k) (by omega)
    rw [hset] at hsp
    have hfr : (b.freed l f (k + 1)).ms = toldAt (b.freed l f k).ms x (f k) := by
      simp only [Bk.freed, Bk.told]
      rw [List.getD_eq_getElem?_getD, List.getElem?_eq_getElem hk]
      simp [hx2]
    have hle : x * 4 + 3 + 1 ≤ b.ms.length * 4 := by omega
    simp [g49_macadamlaw03_freed_l0, e1, e2, e6, e7, e8, hk, hw, c1, c2, hx2, hxl, hh, hlen, hle, hsp, hfr]
  · rintro e h ⟨e1, e2, e8, e6, e7, hh⟩
    have hfm := freed_ms b l f l.length
    have hl2 := freed_lies b l f l.length
    have hl3 := freed_hs b l f l.length
    have hcc := chunk_mc (b.freed l f l.length).ms
    rw [hfm] at hcc
    have hlen : (mc (b.freed l f l.length).ms).length = b.ms.length * 4 := by rw [mc_len, hfm]
    simp [g49_macadamlaw03_freed_l0, e1, e2, e6, e7, e8, onB, onN, results, rdRess, rdRes, hh, hcc, hlen, hl2, hl3]
end Av
end

section
/- Contract: mends. -/
set_option linter.unusedSimpArgs false
set_option linter.unusedVariables false
namespace Av
open Go (IntKind BinOp UnOp)
def mend : List Int → Bk → Bool
  | [], b => b.can (inL [])
  | x :: l, b => (List.range 7).any fun n => mend l (b.told x.toNat (n : Nat))
theorem c51 : ∀ (l : List Int) (b : Bk), b.ok = true → (∀ x ∈ l, 0 ≤ x ∧ x < b.ms.length) → l.length ≤ 1000 → icall pr (.fn 51 [] []) [b.v, .sl (iv l) .shut] = some (.bool (mend l b)) := by
  intro l
  induction l with
  | nil =>
    intro b hok _ _
    refine icall_fn fn51 rfl (by simp) (by simp) rfl ?_
    have c1 := c15 b (ok_fit hok)
    rw [hok] at c1
    simp [g51_macadamlaw03_mends, g51_macadamlaw03_mends_c, c1, results, rdRess, rdRes, mend]
  | cons x l ih =>
    intro b hok hl hll
    refine icall_fn fn51 rfl (by simp) (by simp) rfl ?_
    have hlen := ok_len hok
    have hx := hl x (by simp)
    obtain ⟨x, rfl⟩ := toInt hx.1
    have hxl : x < b.ms.length := by omega
    have htk : (iv l).take l.length = iv l := by rw [← iv_len l, List.take_length]
    have hm0 : b.ms.length ≠ 0 := by omega
    have hcl : (mc b.ms).length = b.ms.length * 4 := mc_len _
    have hle : x * 4 + 3 + 1 ≤ b.ms.length * 4 := by omega
    have hrec : ∀ n : Nat, n < 7 → icall pr (.fn 51 [] []) [(b.told x n).v, .sl (iv l) .shut] = some (.bool (mend l (b.told x n))) := fun n hn =>
      ih (b.told x n) (told_ok hok x (by omega)) (fun y hy => by
        have := hl y (by simp [hy])
        simp only [Bk.told, told_len]; exact this) (by simp at hll; omega)
    have hll2 : ((l.length : Int) + 1) ≠ 0 := by omega
    have hmend : mend (x :: l) b = (List.range 7).any fun n => mend l (b.told x (n : Nat)) := by simp [mend]
    rw [hmend]
    simp [g51_macadamlaw03_mends, g51_macadamlaw03_mends_c, hll2]
    refine wpr_seq (wpr_oblock (loop_up pr (fun k e h => e 1 = .sl (iv (x :: l)) .shut ∧ e 2 = b.bx ∧ e 7 = .int .i64 k ∧ ∀ j, j < k → mend l (b.told x j) = false) 7 ?_ ?_ 0 _ _ (by omega) ⟨rfl, rfl, rfl, fun j hj => by omega⟩))
    · rintro k e h hk ⟨e1, e2, e7, hj⟩
      have hw : IntKind.wrap .i64 ((k : Int) + 1) = k + 1 := wrap_id (by omega) (by omega)
      have hk6 : (k : Int) ≤ 6 := by omega
      have ha := appM_new (h := h) (sz := 4) (bytes := 32) (new := mvs b.ms) (k2 := .shut) (by simpa using hm0) (mvs_cell4 _) (by simp; omega)
      simp only [mvs_cells, mvs_len] at ha
      have hsp := splice_iv1 (l := mc b.ms) (k := x * 4 + 3) (k : Int) (by omega)
      rw [mc_set b.ms x k hxl] at hsp
      have hcc := chunk_mc (toldAt b.ms x k)
      rw [told_len] at hcc
      have hcl2 : (mc (toldAt b.ms x k)).length = b.ms.length * 4 := by rw [mc_len, told_len]
      have hr := hrec k (by omega)
      simp only [Bk.v, Bk.told] at hr
      cases hq : mend l (b.told x k) with
      | true =>
        simp only [Bk.told] at hq
        rw [hq] at hr
        have hany : (List.range 7).any (fun n => mend l (b.told x (n : Nat))) = true := List.any_eq_true.2 ⟨k, List.mem_range.2 hk, hq⟩
        simp [g51_macadamlaw03_mends_l0, e1, e2, e7, hk6, hw, ha, hcl, hle, hsp, hcc, hcl2, hxl, htk, hr, onB, onN, results, rdRess, rdRes]
        exact ⟨k, hk, hq⟩
      | false =>
        have hj2 : ∀ j, j < k + 1 → mend l (b.told x j) = false := fun j hj3 => by
          by_cases h1 : j = k
          · rw [h1]; exact hq
          · exact hj j (by omega)
        simp only [Bk.told] at hq
        rw [hq] at hr
        simp [g51_macadamlaw03_mends_l0, e1, e2, e7, hk6, hw, ha, hcl, hle, hsp, hcc, hcl2, hxl, htk, hr, onB, onN, results, rdRess, rdRes]
        exact hj2
    · rintro e h ⟨e1, e2, e7, hj⟩
      have hany : (List.range 7).any (fun n => mend l (b.told x (n : Nat))) = false := by
        rw [List.any_eq_false]
        intro n hn
        rw [hj n (List.mem_range.1 hn)]; simp
      simp [g51_macadamlaw03_mends_l0, e1, e2, e7, onB, onN, results, rdRess, rdRes]
      exact hj
end Av
end

section
/- Books of which less is known. -/
set_option linter.unusedSimpArgs false
set_option linter.unusedVariables false
namespace Av
open Go (IntKind BinOp UnOp)
def onilchk : Option AV → SR
  | some (.ptr b o) => some (.ptr b o, none)
  | some (.cptr cs) => some (.cptr cs, none)
  | _ => none
@[simp] theorem onilchk_p (b o) : onilchk (some (.ptr b o)) = some (.ptr b o, none) := rfl
@[simp] theorem onilchk_c (cs) : onilchk (some (.cptr cs)) = some (.cptr cs, none) := rfl
@[simp] theorem s_nilchk (p : AProg) (e x) : stepP p e (.nilchk x) = onilchk (ev p e x) := by
  rw [stepP]
  cases ev p e x with
  | none => rfl
  | some v => cases v <;> rfl
/-- of x no more is known than of b -/
structure Wider (b x : Bk) : Prop where
  ms : x.ms = b.ms
  len : x.hs.length = b.hs.length
  hs : ∀ (k : Nat) (y z : Hp), b.hs[k]? = some y → x.hs[k]? = some z → z.a = y.a ∧ z.b = y.b ∧ z.c ≤ y.c ∧ y.d ≤ z.d
  lie : ∀ c : Int, 0 ≤ c ∧ c ≤ 3 → b.lie c ≤ x.lie c
theorem lowTo_mono (ms : List Mv) (l : List Int) (h : Int) {p q : Int} (hpq : p ≤ q) (k : Nat) : lowTo ms l h p k ≤ lowTo ms l h q k := by
  induction k with
  | zero => exact hpq
  | succ k ih => simp only [lowTo]; omega
theorem wide_tr {b x : Bk} (hok : b.ok = true) (hw : Wider b x) {bs : Nat → Bool} {l : List Int} (h : Tr b bs l) : Tr x bs l := by
  refine ⟨h.lok, fun j hj => h.nil j (by rw [← hw.ms]; exact hj), fun j hj => ?_, ?_⟩
  · rw [hw.ms] at hj
    have hm : b.ms[j]? = some b.ms[j] := List.getElem?_eq_getElem hj
    have hmo := ok_mv hok hm
    refine (right_iff (m := b.ms[j]) (by rw [hw.ms]; exact hm)).2 ?_
    have := hw.lie b.ms[j].c ⟨hmo.2.2.2.1, hmo.2.2.2.2.1⟩
    rcases (right_iff hm).1 (h.right j hj) with h1 | h1
    · exact .inl h1
    · exact .inr ⟨h1.1, by omega⟩
  · rw [fits_iff]
    intro k z hz
    have hk := (List.getElem?_eq_some_iff.1 hz).1
    rw [hw.len] at hk
    have hy : b.hs[k]? = some b.hs[k] := List.getElem?_eq_getElem hk
    obtain ⟨q1, q2, q3, q4⟩ := hw.hs k _ z hy hz
    have h1 := fits_iff.1 h.fits k _ hy
    simp only [Bk.firstLo, Bk.firstHi, hw.ms] at h1 ⊢
    have h2 := lowTo_mono b.ms l k (p := max z.a (z.c - more b.ms l k b.ms.length)) (q := max b.hs[k].a (b.hs[k].c - more b.ms l k b.ms.length)) (by omega) (b.ms.length + 1)
    omega
theorem wide_can {b x : Bk} (hok : b.ok = true) (hxo : x.ok = true) (hw : Wider b x) {bs : Nat → Bool} (h : b.can bs = true) : x.can bs = true := by
  obtain ⟨l, hl⟩ := (can_iff hok).1 h
  exact (can_iff hxo).2 ⟨l, wide_tr hok hw hl⟩
theorem wide_tell {b x : Bk} (hok : b.ok = true) (hxo : x.ok = true) (hw : Wider b x) (hc : b.c = true) (f : List Int → Int × Int) :
    (tell f x.T).1 ≤ (tell f b.T).1 ∧ (tell f b.T).2 ≤ (tell f x.T).2 := by
  obtain ⟨_, ⟨l, hl, h2⟩, ⟨l', hl', h3⟩⟩ := tell_T hok hc f
  obtain ⟨h1, _, _⟩ := tell_T hxo (wide_can hok hxo hw hc) f
  have g1 := h1 l (wide_tr hok hw hl)
  have g2 := h1 l' (wide_tr hok hw hl')
  omega
theorem wide_liar {b x : Bk} (hok : b.ok = true) (hxo : x.ok = true) (hw : Wider b x) {c : Nat} (hc : c < 4) (h : (c : Int) ∈ x.liarL) : (c : Int) ∈ b.liarL := by
  rw [liar_mem hxo c hc, hw.ms] at h
  rw [liar_mem hok c hc]
  exact fun l hl => h l (wide_tr hok hw hl)
theorem wide_wrong {b x : Bk} (hok : b.ok = true) (hxo : x.ok = true) (hw : Wider b x) {W : List Int} (h : b.wrongO = some W) : ∃ V, x.wrongO = some V ∧ V.length ≤ W.length := by
  obtain ⟨w1, w2, w3, w4⟩ := wrong_spec hok h
  have w5 := wide_can hok hxo hw w2
  have hl : x.ms.length = b.ms.length := by rw [hw.ms]
  cases hV : x.wrongO with
  | none => rw [wrong_none hxo hV W (by rw [hl]; exact w1)] at w5; cases w5
  | some V =>
    refine ⟨V, rfl, ?_⟩
    have := (wrong_spec hxo hV).2.2.2 W (by rw [hl]; exact w1) w5 (by omega)
    rcases Nat.lt_or_ge W.length V.length with h1 | h1
    · simp [fewer, h1, Nat.ne_of_lt h1] at this
    · exact h1
theorem andNot_num : ∀ a : Fin 16, ∀ c : Fin 16, a.val &&& c.val = a.val → IntKind.wrap .i64 ((BitVec.ofInt (IntKind.bits .i64) (a.val : Int) &&& ~~~ BitVec.ofInt (IntKind.bits .i64) (c.val : Int)).toNat : Int) = 0 := by decide +kernel
theorem bin_andNot (a c : Nat) (ha : a < 16) (hc : c < 16) (h : a &&& c = a) : bin .andNot (.int .i64 a) (.int .i64 c) = some (.int .i64 0) := by
  have := andNot_num ⟨a, ha⟩ ⟨c, hc⟩ h
  show some (AV.int .i64 (IntKind.wrap .i64 ((BitVec.ofInt (IntKind.bits .i64) (a : Int) &&& ~~~ BitVec.ofInt (IntKind.bits .i64) (c : Int)).toNat : Int))) = _
  rw [this]
theorem setTo_bits {l : List Int} (h : ∀ x ∈ l, ∃ c : Nat, c < 4 ∧ x = c) : setTo l l.length < 16 := by
  have := setTo_lt2 l 4 l.length fun j hj => by
    rw [List.getD_eq_getElem?_getD, List.getElem?_eq_getElem hj]
    obtain ⟨c, h1, h2⟩ := h l[j] (List.getElem_mem hj)
    simp [h2, h1]
  simpa using this
theorem setTo_mem {l : List Int} (h : ∀ x ∈ l, ∃ c : Nat, c < 4 ∧ x = c) (c : Nat) : (setTo l l.length).testBit c = true ↔ (c : Int) ∈ l := by
  rw [setTo_bit]
  constructor
  · rintro ⟨j, hj, h1⟩
    rw [List.getD_eq_getElem?_getD, List.getElem?_eq_getElem hj] at h1
    obtain ⟨c', h2, h3⟩ := h l[j] (List.getElem_mem hj)
    simp [h3] at h1
    rw [← h1, ← h3]; exact List.getElem_mem hj
  · intro hm
    obtain ⟨j, hj, h1⟩ := List.mem_iff_getElem.1 hm
    exact ⟨j, hj, by rw [List.getD_eq_getElem?_getD, List.getElem?_eq_getElem hj, h1]; simp⟩
theorem setTo_sub {l m : List Int} (hl : ∀ x ∈ l, ∃ c : Nat, c < 4 ∧ x = c) (hm : ∀ x ∈ m, ∃ c : Nat, c < 4 ∧ x = c) (h : ∀ c : Nat, (c : Int) ∈ m → (c : Int) ∈ l) : setTo m m.length &&& setTo l l.length = setTo m m.length := by
  apply Nat.eq_of_testBit_eq
  intro c
  rw [Nat.testBit_and]
  cases hq : (setTo m m.length).testBit c with
  | false => rfl
  | true =>
    rw [(setTo_mem hl c).2 (h c ((setTo_mem hm c).1 hq))]; rfl
/-! a heap's last span, as cells -/
def Hp.last (x : Hp) (c d : Int) : Hp := ⟨x.a, x.b, c, d⟩
theorem hc_get (hs : List Hp) (k : Nat) (x : Hp) (h : hs[k]? = some x) : (hc hs).getD (k * 4 + 2) 0 = x.c ∧ (hc hs).getD (k * 4 + 3) 0 = x.d := by
  induction hs generalizing k with
  | nil => simp at h
  | cons m ms ih =>
    have h1 : hc (m :: ms) = m.a :: m.b :: m.c :: m.d :: hc ms := rfl
    cases k with
    | zero => simp at h; subst h; rw [h1]; exact ⟨rfl, rfl⟩
    | succ k =>
      rw [h1, show (k + 1) * 4 + 2 = k * 4 + 2 + 1 + 1 + 1 + 1 by omega, show (k + 1) * 4 + 3 = k * 4 + 3 + 1 + 1 + 1 + 1 by omega]
      simp only [List.getD_cons_succ]
      exact ih k (by simpa using h)
theorem hc_set (hs : List Hp) (k : Nat) (x : Hp) (h : hs[k]? = some x) (v : Int) : (hc hs).set (k * 4 + 2) v = hc (hs.set k (x.last v x.d)) ∧ (hc hs).set (k * 4 + 3) v = hc (hs.set k (x.last x.c v)) := by
  induction hs generalizing k with
  | nil => simp at h
  | cons m ms ih =>
    have h1 : hc (m :: ms) = m.a :: m.b :: m.c :: m.d :: hc ms := rfl
    cases k with
    | zero => simp at h; subst h; rw [h1]; exact ⟨rfl, rfl⟩
    | succ k =>
      rw [h1, show (k + 1) * 4 + 2 = k * 4 + 2 + 1 + 1 + 1 + 1 by omega, show (k + 1) * 4 + 3 = k * 4 + 3 + 1 + 1 + 1 + 1 by omega]
      simp only [List.set_cons_succ, (ih k (by simpa using h)).1, (ih k (by simpa using h)).2]
      exact ⟨rfl, rfl⟩
def Bk.hset (b : Bk) (k : Nat) (z : Hp) : Bk := ⟨b.hs.set k z, b.ms, b.l0, b.l1, b.l2, b.l3⟩
theorem hset_ok {b : Bk} (h : b.ok = true) (k : Nat) {z : Hp} (hz : z.ok = true) : (b.hset k z).ok = true := by
  simp only [Bk.ok, Bool.and_eq_true] at h
  simp only [Bk.ok, Bool.and_eq_true, Bk.hset, List.length_set]
  refine ⟨⟨⟨h.1.1.1, ?_⟩, h.1.2⟩, h.2⟩
  have h2 := List.all_eq_true.1 h.1.1.2
  rw [List.all_eq_true]
  intro m hm
  rcases List.mem_or_eq_of_mem_set hm with h3 | h3
  · exact h2 m h3
  · rw [h3]; exact hz
theorem hset_wide {b : Bk} {k : Nat} {y : Hp} (hy : b.hs[k]? = some y) {c d : Int} (hc : c ≤ y.c) (hd : y.d ≤ d) : Wider b (b.hset k (y.last c d)) := by
  refine ⟨rfl, by simp [Bk.hset], fun j p q hp hq => ?_, fun _ _ => Int.le_refl _⟩
  simp only [Bk.hset] at hq
  by_cases hj : j = k
  · subst hj
    rw [hy] at hp; cases hp
    rw [List.getElem?_set_self (List.getElem?_eq_some_iff.1 hy).1] at hq
    cases hq
    exact ⟨rfl, rfl, hc, hd⟩
  · rw [List.getElem?_set_ne (Ne.symm hj)] at hq
    rw [hp] at hq; cases hq
    exact ⟨rfl, rfl, Int.le_refl _, Int.le_refl _⟩
theorem lset_wide {b : Bk} {k : Nat} (hk : k < 4) {v : Int} (hv : b.lie k ≤ v) : Wider b (b.lset k v) := by
  refine ⟨lset_ms b k v, by rw [lset_hs], fun j p q hp hq => ?_, fun c hc => ?_⟩
  · rw [lset_hs] at hq
    rw [hp] at hq; cases hq
    exact ⟨rfl, rfl, Int.le_refl _, Int.le_refl _⟩
  · rw [lset_lie b k v c hk hc]
    split
    · rename_i h; rw [h]; exact hv
    · exact Int.le_refl _
end Av
end

section
/- What is truly so, as numbers choose it: contracts of From and truly. -/
set_option linter.unusedSimpArgs false
set_option linter.unusedVariables false
namespace Av
open Go (IntKind BinOp UnOp)
theorem c85 (a b n : Int) (ha : 0 ≤ a ∧ a ≤ 1000) (hb : a ≤ b ∧ b ≤ 1000) : icall pr (.fn 85 [] []) [.agg [.int .i64 a, .int .i64 b], .int .i64 n] = some (.int .i64 (a + wrapI n (b - a + 1))) := by
  refine icall_fn fn85 rfl rfl rfl rfl ?_
  have h1 : IntKind.wrap .i64 (b - a) = b - a := wrap_id (by omega) (by omega)
  have h2 : IntKind.wrap .i64 (b - a + 1) = b - a + 1 := wrap_id (by omega) (by omega)
  have w1 := wrapI_bd n (m := b - a + 1) (by omega)
  have h3 : IntKind.wrap .i64 (a + wrapI n (b - a + 1)) = a + wrapI n (b - a + 1) := wrap_id (by omega) (by omega)
  have c1 := c38 n (b - a + 1) (by omega)
  simp [g85_macadamref00_From, g85_macadamref00_From_c, results, rdRess, rdRes, h1, h2, h3, c1]

/-- what is in a heap at first -/
def firstI (b : Bk) (bits : List Int) (i : Nat) : Int := match b.hs[i]? with
  | some y => y.a + wrapI (pickI bits i) (y.b - y.a + 1)
  | none => 0
/-- what a load has -/
def cartI (m : Mv) (n0 : Int) (nw : List Int) : Int := if 0 ≤ m.f then min n0 (nw.getD m.f.toNat 0) else n0
def nextF (m : Mv) (n : Int) (nw : List Int) : List Int := if 0 ≤ m.f then nw.set m.f.toNat (nw.getD m.f.toNat 0 - n) else nw
def nextI (m : Mv) (n : Int) (nw : List Int) : List Int := if 0 ≤ m.t then (nextF m n nw).set m.t.toNat ((nextF m n nw).getD m.t.toNat 0 + n) else nextF m n nw
/-- what is in all heaps -/
def nowI (b : Bk) (bits : List Int) : Nat → List Int
  | 0 => (List.range b.hs.length).map (firstI b bits)
  | k + 1 => match b.ms[k]? with
    | some m => nextI m (cartI m (wrapI (pickI bits ((k : Int) + 1)) 7) (nowI b bits k)) (nowI b bits k)
    | none => nowI b bits k
def loadI (b : Bk) (bits : List Int) (k : Nat) : Int := match b.ms[k]? with
  | some m => cartI m (wrapI (pickI bits ((k : Int) + 1)) 7) (nowI b bits k)
  | none => 0
def loadsI (b : Bk) (bits : List Int) (k : Nat) : List Int := (List.range k).map (loadI b bits)
def heapsI (b : Bk) (bits : List Int) (k : Nat) : List AV := (List.range k).map fun j => .sl (iv (nowI b bits j)) .shut

theorem next_len (m : Mv) (n : Int) (nw : List Int) : (nextI m n nw).length = nw.length := by
  simp only [nextI, nextF]
  split <;> split <;> simp
theorem now_len (b : Bk) (bits : List Int) (k : Nat) : (nowI b bits k).length = b.hs.length := by
  induction k with
  | zero => simp [nowI]
  | succ k ih =>
    simp only [nowI]
    cases b.ms[k]? with
    | none => exact ih
    | some m => simp only [next_len]; exact ih
theorem first_bd {b : Bk} (hok : b.ok = true) (bits : List Int) {i : Nat} {y : Hp} (hy : b.hs[i]? = some y) : y.a ≤ firstI b bits i ∧ firstI b bits i ≤ y.b := by
  have := ok_hp hok hy
  have w1 := wrapI_bd (pickI bits i) (m := y.b - y.a + 1) (by omega)
  simp only [firstI, hy]
  omega
theorem set_get (l : List Int) (k j : Nat) (v : Int) : (l.set k v).getD j 0 = if j = k ∧ k < l.length then v else l.getD j 0 := by
  simp only [List.getD_eq_getElem?_getD, List.getElem?_set]
  by_cases h : k = j
  · subst h
    by_cases h2 : k < l.length
    · simp [h2]
    · simp [h2]
  · rw [if_neg h, if_neg (fun q => h q.1.symm)]
/-- what is in heaps, step by step -/
theorem now_bd {b : Bk} (hok : b.ok = true) (bits : List Int) (k : Nat) (hk : k ≤ b.ms.length) : ∀ j, j < b.hs.length → 0 ≤ (nowI b bits k).getD j 0 ∧ (nowI b bits k).getD j 0 ≤ 60 + 6 * (k : Int) := by
  induction k with
  | zero =>
    intro j hj
    have hy : b.hs[j]? = some b.hs[j] := List.getElem?_eq_getElem hj
    have h1 := first_bd hok bits hy
    have h2 := ok_hp hok hy
    have : (nowI b bits 0).getD j 0 = firstI b bits j := by simp [nowI, List.getD_eq_getElem?_getD, hj]
    rw [this]; omega
  | succ k ih =>
    intro j hj
    have ih := ih (by omega)
    have hkl : k < b.ms.length := by omega
    have hm : b.ms[k]? = some b.ms[k] := List.getElem?_eq_getElem hkl
    have hmo := ok_mv hok hm
    simp only [nowI, hm]
    generalize b.ms[k] = m at *
    have hl := now_len b bits k
    generalize nowI b bits k = nw at *
    have w1 := wrapI_bd (pickI bits ((k : Int) + 1)) (m := 7) (by omega)
    generalize wrapI (pickI bits ((k : Int) + 1)) 7 = n0 at *
    have hj0 := ih j hj
    have hF : ∀ j, j < b.hs.length → 0 ≤ (nextF m (cartI m n0 nw) nw).getD j 0 ∧ (nextF m (cartI m n0 nw) nw).getD j 0 ≤ nw.getD j 0 := by
      intro j hj
      have h1 := ih j hj
      simp only [nextF, cartI]
      split
      · rw [set_get]
        split
        · rename_i h2
          obtain ⟨h2, h3⟩ := h2
          have h4 := ih m.f.toNat (by omega)
          subst h2
          omega
        · omega
      · omega
    have hFl : (nextF m (cartI m n0 nw) nw).length = nw.length := by simp only [nextF]; split <;> simp
    have hc : 0 ≤ cartI m n0 nw ∧ cartI m n0 nw ≤ 6 := by
      simp only [cartI]
      split
      · have := ih m.f.toNat (by omega); omega
      · omega
    simp only [nextI]
    have h3 := hF j hj
    split
    · rw [set_get]
      split
      · rename_i h2
        obtain ⟨h2, _⟩ := h2
        subst h2
        push_cast; omega
      · push_cast; omega
    · push_cast; omega
theorem load_bd {b : Bk} (hok : b.ok = true) (bits : List Int) (k : Nat) : 0 ≤ loadI b bits k ∧ loadI b bits k ≤ 6 := by
  simp only [loadI]
  cases hm : b.ms[k]? with
  | none => simp
  | some m =>
    have hmo := ok_mv hok hm
    have hk := (List.getElem?_eq_some_iff.1 hm).1
    have w1 := wrapI_bd (pickI bits ((k : Int) + 1)) (m := 7) (by omega)
    simp only [cartI]
    split
    · have := now_bd hok bits k (by omega) m.f.toNat (by omega); omega
    · omega
theorem chunk_iv (l : List Int) : chunk 1 l.length (iv l) = iv l := by
  induction l with
  | nil => rfl
  | cons x l ih =>
    simp only [List.length_cons, chunk, iv_cons, if_true, List.drop_succ_cons, List.drop_zero, ih]
theorem iv_shutv (l : List Int) : (iv l).map AV.shutv = iv l := by simp [iv]
/-- a slice that can be appended to, and its token -/
def OpnT (h : H) (k : SK) : Prop := k = .exact ∨ ∃ t, k = .opn t ∧ t < h.n ∧ h.get t = some .tok
theorem app_okT {h : H} {sz bytes : Nat} {es new : List AV} {k k2 : SK} (ho : OpnT h k) (hn : new.length ≠ 0) (he : es.all (fun v => decide (v.cells.length = sz)) = true)
    (hnew : new.all (fun v => decide (v.cells.length = sz) && v.flats) = true) (hr : (es.length + new.length) * bytes ≤ 140737488355328 ∧ es.length + new.length ≤ 4611686018427387904) :
    ∃ h', oapp h sz bytes (some (.sl es k)) (some (.sl new k2)) = some (.sl (es ++ new.map AV.shutv) (.opn h.n), h') ∧ h'.n = h.n + 1 ∧ h'.get h.n = some .tok ∧
      ∀ j, j < h.n → k ≠ .opn j → h'.get j = h.get j := by
  have h1 : elemsOf sz (.sl new k2) = some new := by simp only [elemsOf, hnew, if_true]
  have h2 : roomFor (es.length + new.length) bytes = true := by simp only [roomFor]; exact decide_eq_true hr
  simp only [oapp, oappS, h1, hn, if_false, he, h2, and_self, if_true]
  rcases ho with rfl | ⟨t, rfl, ht, hg⟩
  · exact ⟨_, rfl, by simp, by simp, fun j hj _ => by simp; omega⟩
  · simp only [hg]
    refine ⟨_, rfl, by simp, by simp, fun j hj hne => ?_⟩
    have : j ≠ t := fun q => hne (q ▸ rfl)
    simp [this]; omega
theorem heaps_cell1 (b : Bk) (bits : List Int) (k : Nat) : (heapsI b bits k).all (fun v => decide (v.cells.length = 1)) = true := by
  simp [heapsI]
theorem heaps_clean (b : Bk) (bits : List Int) (k : Nat) : cleans (heapsI b bits k) = true := by
  induction k with
  | zero => rfl
  | succ k ih =>
    have : ∀ (l m : List AV), cleans (l ++ m) = (cleans l && cleans m) := fun l m => by
      induction l with
      | nil => rfl
      | cons x l ih => simp [cleans, ih, Bool.and_assoc]
    have h2 : heapsI b bits (k + 1) = heapsI b bits k ++ [.sl (iv (nowI b bits k)) .shut] := by simp [heapsI, List.range_succ]
    rw [h2, this, ih]; simp
end Av
end

section
/- Contract: truly. -/
set_option linter.unusedSimpArgs false
set_option linter.unusedVariables false
namespace Av
open Go (IntKind BinOp UnOp)
def fstI (b : Bk) (bits : List Int) (k : Nat) : List Int := (List.range k).map (firstI b bits)
theorem fst_len (b : Bk) (bits k) : (fstI b bits k).length = k := by simp [fstI]
theorem fst_succ (b : Bk) (bits k) : fstI b bits (k + 1) = fstI b bits k ++ [firstI b bits k] := by simp [fstI, List.range_succ]
theorem fst_all (b : Bk) (bits) : fstI b bits b.hs.length = nowI b bits 0 := rfl
theorem l36_0 (b : Bk) (hok : b.ok = true) (bits : List Int) (hbl : (bits.length : Int) ≤ 9223372036854775807) (e h) (e1 : e 1 = .sl (iv bits) .shut) (e2 : e 2 = b.bx) (e6 : e 6 = .sl [] .exact) (e7 : e 7 = .int .i64 0) :
    wpr (den pr (.loop g36_macadamlaw03_truly_l0) e h) fun o e' h' => o = .exit 0 ∧ e' 1 = e 1 ∧ e' 2 = e 2 ∧ e' 4 = e 4 ∧ e' 5 = e 5 ∧ ∃ i, e' 6 = .msl i 0 b.hs.length 1 ∧ i < h'.n ∧ h'.get i = some (.cells (iv (nowI b bits 0))) := by
  have hlen := ok_len hok
  refine loop_up pr (fun k e' h' => e' 1 = e 1 ∧ e' 2 = e 2 ∧ e' 4 = e 4 ∧ e' 5 = e 5 ∧ e' 7 = .int .i64 k ∧ (k = 0 ∧ e' 6 = .sl [] .exact ∨ k ≠ 0 ∧ ∃ i, e' 6 = .msl i 0 k 1 ∧ i < h'.n ∧ h'.get i = some (.cells (iv (fstI b bits k))))) b.hs.length ?_ ?_ 0 e h (by omega) ⟨rfl, rfl, rfl, rfl, e7, .inl ⟨rfl, e6⟩⟩
  · rintro k e' h' hk ⟨q1, q2, q4, q5, q7, q6⟩
    rw [e1] at q1; rw [e2] at q2
    have hy : b.hs[k]? = some b.hs[k] := List.getElem?_eq_getElem hk
    have hyo := ok_hp hok hy
    have hf : firstI b bits k = b.hs[k].a + wrapI (pickI bits k) (b.hs[k].b - b.hs[k].a + 1) := by simp only [firstI, hy]
    have c1 := c86 bits hbl k
    have c2 := c85 b.hs[k].a b.hs[k].b (pickI bits k) (by omega) (by omega)
    rw [← hf] at c2
    have hs := fst_succ b bits k
    have hl := fst_len b bits k
    have hw : IntKind.wrap .i64 ((k : Int) + 1) = k + 1 := wrap_id (by omega) (by omega)
    generalize hyy : b.hs[k] = y at *
    generalize firstI b bits k = f at *
    rcases q6 with ⟨hk0, q6⟩ | ⟨hk0, i, q6, hi, hg⟩
    · have ha := appM_new (h := h') (sz := 1) (bytes := 8) (new := [.int .i64 f]) (k2 := .exact) (by simp) (by simp) (by simp)
      have hz : fstI b bits k = [] := by rw [hk0]; rfl
      rw [hz, List.nil_append] at hs
      subst hk0
      simp only [Int.natCast_zero] at c1 c2 hw q7
      simp at ha
      simp [g36_macadamlaw03_truly_l0, e1, e2, q1, q2, q4, q5, q6, q7, hk, hyy, c1, c2, ha, hw, hs]
    · have ha := appM_grow (h := h') (sz := 1) (bytes := 8) (new := [.int .i64 f]) (k2 := .exact) (len := k) hg (by simp [hl]) (by simp) (by simp) (by simp; omega)
      simp at ha
      simp [g36_macadamlaw03_truly_l0, e1, e2, q1, q2, q4, q5, q6, q7, hk, hyy, c1, c2, ha, hw, hs]
  · rintro e' h' ⟨q1, q2, q4, q5, q7, q6⟩
    rw [e1] at q1; rw [e2] at q2
    rcases q6 with ⟨hk0, q6⟩ | ⟨hk0, i, q6, hi, hg⟩
    · omega
    · rw [fst_all] at hg
      simp [g36_macadamlaw03_truly_l0, e1, e2, q1, q2, q4, q5, q6, q7, hi, hg]
theorem heaps_succ (b : Bk) (bits k) : heapsI b bits (k + 1) = heapsI b bits k ++ [.sl (iv (nowI b bits k)) .shut] := by simp [heapsI, List.range_succ]
theorem loads_succ (b : Bk) (bits k) : loadsI b bits (k + 1) = loadsI b bits k ++ [loadI b bits k] := by simp [loadsI, List.range_succ]
theorem heaps_len (b : Bk) (bits k) : (heapsI b bits k).length = k := by simp [heapsI]
theorem loads_len (b : Bk) (bits k) : (loadsI b bits k).length = k := by simp [loadsI]
/-- what is known is added -/
theorem three {h : H} {i len : Nat} {nw : List Int} (hi : i < h.n) (hg : h.get i = some (.cells (iv nw))) (hl : nw.length = len) (hl0 : len ≠ 0) (hl1 : len ≤ 1000) {hs : List AV} {k1 : SK} (hs1 : hs.all (fun v => decide (v.cells.length = 1)) = true) (hsl : hs.length ≤ 1000)
    {ls : List Int} {k2 : SK} (hll : ls.length ≤ 1000) (o1 : OpnT h k1) (o2 : OpnT h k2) (hd : ∀ t, k1 = .opn t → k2 ≠ .opn t) (n : Int) :
    ∃ h1 h2 h3 K1 K2, oapp h 1 8 (some (.sl (iv ls) k2)) (some (.sl [.int .i64 n] .exact)) = some (.sl (iv (ls ++ [n])) K2, h1) ∧ oappC h1 1 8 (some (.sl [] .exact)) (some (.msl i 0 len 1)) = some (.sl (iv nw) (.opn h1.n), h2) ∧
      oapp h2 1 24 (some (.sl hs k1)) (some (.sl [.sl (iv nw) .shut] .exact)) = some (.sl (hs ++ [.sl (iv nw) .shut]) K1, h3) ∧ i < h3.n ∧ h3.get i = some (.cells (iv nw)) ∧ OpnT h3 K1 ∧ OpnT h3 K2 ∧ (∀ t, K1 = .opn t → K2 ≠ .opn t) := by
  have hi2 : k2 ≠ .opn i := by
    rintro rfl
    rcases o2 with h1 | ⟨t, h1, _, h2⟩
    · cases h1
    · cases h1; rw [hg] at h2; cases h2
  have hi1 : k1 ≠ .opn i := by
    rintro rfl
    rcases o1 with h1 | ⟨t, h1, _, h2⟩
    · cases h1
    · cases h1; rw [hg] at h2; cases h2
  obtain ⟨h1, a1, a2, a3, a4⟩ := app_okT (k2 := .exact) (sz := 1) (bytes := 8) (es := iv ls) (new := [.int .i64 n]) o2 (by simp) (by simp) (by simp) (by simp; omega)
  have hg1 : h1.get i = some (.cells (iv nw)) := by rw [a4 i hi hi2]; exact hg
  have b1 := appC_ok (h := h1) (sz := 1) (bytes := 8) (len := len) hg1 (by simp [hl]) (by simp) hl0 (by omega)
  rw [← hl, chunk_iv, iv_shutv, hl] at b1
  have o1' : OpnT (h1.new .tok) k1 := by
    rcases o1 with rfl | ⟨t, rfl, ht, hq⟩
    · exact .inl rfl
    · refine .inr ⟨t, rfl, by simp; omega, ?_⟩
      have := a4 t ht (hd t rfl)
      rw [new_get, if_neg (by omega), this]; exact hq
  obtain ⟨h3, d1, d2, d3, d4⟩ := app_okT (k2 := .exact) (sz := 1) (bytes := 24) (es := hs) (new := [.sl (iv nw) .shut]) o1' (by simp) hs1 (by simp) (by simp; omega)
  refine ⟨h1, h1.new .tok, h3, .opn (h1.new .tok).n, .opn h.n, by simpa using a1, b1, by simpa using d1, by simp at d2; omega, ?_, .inr ⟨_, rfl, by omega, d3⟩, .inr ⟨h.n, rfl, by simp at d2; omega, ?_⟩, ?_⟩
  · rw [d4 i (by simp; omega) hi1, new_get, if_neg (by omega)]; exact hg1
  · have hne : k1 ≠ .opn h.n := by
      rintro rfl
      rcases o1 with h1 | ⟨t, h1, h2, _⟩
      · cases h1
      · cases h1; omega
    rw [d4 h.n (by simp; omega) hne, new_get, if_neg (by omega)]; exact a3
  · intro t ht hc
    simp at ht hc
    omega
theorem loads_iv_succ (b : Bk) (bits k n) (hn : loadI b bits k = n) : loadsI b bits (k + 1) = loadsI b bits k ++ [n] := by rw [loads_succ, hn]
end Av
end

section
/- Contract: truly, joined. -/
set_option linter.unusedSimpArgs false
set_option linter.unusedVariables false
namespace Av
open Go (IntKind BinOp UnOp)
theorem opnT_put {h : H} {k : SK} {i : Nat} {cs : List AV} (hg : h.get i = some (.cells cs)) (o : AObj) (ho : OpnT h k) : OpnT (h.put i o) k := by
  rcases ho with h1 | ⟨t, h1, h2, h3⟩
  · exact .inl h1
  · refine .inr ⟨t, h1, h2, ?_⟩
    have : t ≠ i := by rintro rfl; rw [hg] at h3; cases h3
    rw [put_get, if_neg this]; exact h3
theorem nextF_bd {m : Mv} {n0 B : Int} {nw : List Int} (hn0 : 0 ≤ n0) (hf : m.f = -1 ∨ 0 ≤ m.f ∧ m.f < nw.length) (h : ∀ j, j < nw.length → 0 ≤ nw.getD j 0 ∧ nw.getD j 0 ≤ B) :
    ∀ j, j < nw.length → 0 ≤ (nextF m (cartI m n0 nw) nw).getD j 0 ∧ (nextF m (cartI m n0 nw) nw).getD j 0 ≤ B := by
  intro j hj
  have h1 := h j hj
  simp only [nextF, cartI]
  split
  · rw [set_get]
    split
    · rename_i h2
      obtain ⟨h2, h3⟩ := h2
      have h4 := h m.f.toNat (by omega)
      subst h2
      omega
    · omega
  · omega
theorem l36_1 (b : Bk) (hok : b.ok = true) (bits : List Int) (hbl : (bits.length : Int) ≤ 9223372036854775807) (e h) (i0 : Nat) (k0 : SK) (e1 : e 1 = .sl (iv bits) .shut) (e2 : e 2 = b.bx) (e4 : e 4 = .lbox 0 [.sl [] .exact, .sl [] .exact])
    (e5 : e 5 = .lbox 0 [.sl (heapsI b bits 1) k0, .sl [] .exact]) (ho : OpnT h k0) (e6 : e 6 = .msl i0 0 b.hs.length 1) (hi : i0 < h.n) (hg : h.get i0 = some (.cells (iv (nowI b bits 0)))) (e8 : e 8 = .int .i64 0) :
    wpr (den pr (.loop g36_macadamlaw03_truly_l1) e h) fun o e' h' => o = .exit 2 ∧ e' 4 = e 4 ∧ ∃ k1 k2, e' 5 = .lbox 0 [.sl (heapsI b bits (b.ms.length + 1)) k1, .sl (iv (loadsI b bits b.ms.length)) k2] := by
  have hlen := ok_len hok
  refine loop_up pr (fun k e' h' => e' 1 = e 1 ∧ e' 2 = e 2 ∧ e' 4 = e 4 ∧ e' 8 = .int .i64 k ∧ ∃ i k1 k2, e' 5 = .lbox 0 [.sl (heapsI b bits (k + 1)) k1, .sl (iv (loadsI b bits k)) k2] ∧ e' 6 = .msl i 0 b.hs.length 1 ∧ i < h'.n ∧
      h'.get i = some (.cells (iv (nowI b bits k))) ∧ OpnT h' k1 ∧ OpnT h' k2 ∧ (∀ t, k1 = .opn t → k2 ≠ .opn t)) b.ms.length ?_ ?_ 0 e h (by omega) ⟨rfl, rfl, rfl, e8, i0, k0, .exact, e5, e6, hi, hg, ho, .inl rfl, fun t _ hc => by cases hc⟩
  · rintro k e' h' hk ⟨q1, q2, q4, q8, i, k1, k2, q5, q6, hi, hg, o1, o2, hd⟩
    rw [e1] at q1; rw [e2] at q2; rw [e4] at q4
    have hm : b.ms[k]? = some b.ms[k] := List.getElem?_eq_getElem hk
    have hmo := ok_mv hok hm
    have hbd := now_bd hok bits k (by omega)
    have hnl := now_len b bits k
    have hns : nowI b bits (k + 1) = nextI b.ms[k] (cartI b.ms[k] (wrapI (pickI bits ((k : Int) + 1)) 7) (nowI b bits k)) (nowI b bits k) := by simp only [nowI, hm]
    have hls : loadI b bits k = cartI b.ms[k] (wrapI (pickI bits ((k : Int) + 1)) 7) (nowI b bits k) := by simp only [loadI, hm]
    have hhs := heaps_succ b bits (k + 1)
    have hlo := loads_iv_succ b bits k _ hls
    have hcell := heaps_cell1 b bits (k + 1)
    have hhl := heaps_len b bits (k + 1)
    have hll := loads_len b bits k
    rw [hns] at hhs
    have w1 := wrapI_bd (pickI bits ((k : Int) + 1)) (m := 7) (by omega)
    have c1 := c86 bits hbl ((k : Int) + 1)
    have c2 := c38 (pickI bits ((k : Int) + 1)) 7 (by omega)
    have hw : IntKind.wrap .i64 ((k : Int) + 1) = k + 1 := wrap_id (by omega) (by omega)
    generalize wrapI (pickI bits ((k : Int) + 1)) 7 = n0 at *
    generalize hmm : b.ms[k] = m at *
    generalize heapsI b bits (k + 1) = HS at *
    generalize heapsI b bits (k + 1 + 1) = HS2 at *
    generalize loadsI b bits k = LS at *
    generalize loadsI b bits (k + 1) = LS2 at *
    generalize nowI b bits (k + 1) = nw2 at *
    generalize nowI b bits k = nw at *
    rw [← hnl] at hbd
    have hFb := nextF_bd (m := m) w1.1 (by omega) hbd
    have hFl : (nextF m (cartI m n0 nw) nw).length = nw.length := by simp only [nextF]; split <;> simp
    have hc : 0 ≤ cartI m n0 nw ∧ cartI m n0 nw ≤ 6 := by
      simp only [cartI]
      split
      · have := hbd m.f.toNat (by omega); omega
      · omega
    -- what goes out of a heap
    have hout : ∀ (hf0 : 0 ≤ m.f), ∃ f : Nat, m.f = f ∧ f < nw.length ∧ ∃ x : Int, part (iv nw) f 1 false = some (.int .i64 x) ∧ cartI m n0 nw = min n0 x ∧ IntKind.wrap .i64 (x - cartI m n0 nw) = x - cartI m n0 nw ∧
        splice (iv nw) f [.int .i64 (x - cartI m n0 nw)] = iv (nextF m (cartI m n0 nw) nw) := by
      intro hf0
      obtain ⟨f, hf⟩ := toInt hf0
      have hfl : f < nw.length := by omega
      have := hbd f hfl
      have hcc : cartI m n0 nw = min n0 (nw.getD f 0) := by simp only [cartI, hf]; rw [if_pos (by omega)]; simp
      refine ⟨f, hf, hfl, nw.getD f 0, part_iv1 hfl, hcc, wrap_id (by omega) (by omega), ?_⟩
      rw [splice_iv1 _ hfl]
      simp only [nextF, hf]; rw [if_pos (by omega)]; simp
    -- what comes to a heap
    have hin : ∀ (ht0 : 0 ≤ m.t), ∃ t : Nat, m.t = t ∧ t < nw.length ∧ ∃ x : Int, part (iv (nextF m (cartI m n0 nw) nw)) t 1 false = some (.int .i64 x) ∧ IntKind.wrap .i64 (x + cartI m n0 nw) = x + cartI m n0 nw ∧
        splice (iv (nextF m (cartI m n0 nw) nw)) t [.int .i64 (x + cartI m n0 nw)] = iv (nextI m (cartI m n0 nw) nw) := by
      intro ht0
      obtain ⟨t, ht⟩ := toInt ht0
      have htl : t < nw.length := by omega
      have := hFb t htl
      refine ⟨t, ht, htl, (nextF m (cartI m n0 nw) nw).getD t 0, part_iv1 (by omega), wrap_id (by omega) (by omega), ?_⟩
      rw [splice_iv1 _ (by omega)]
      simp only [nextI, ht]; rw [if_pos (by omega)]; simp
    have hF0 : m.f < 0 → nextF m (cartI m n0 nw) nw = nw ∧ cartI m n0 nw = n0 := fun h => by
      simp only [nextF, cartI]; rw [if_neg (by omega), if_neg (by omega)]; exact ⟨rfl, rfl⟩
    have hI0 : m.t < 0 → nextI m (cartI m n0 nw) nw = nextF m (cartI m n0 nw) nw := fun h => by
      simp only [nextI]; rw [if_neg (by omega)]
    have hIl : (nextI m (cartI m n0 nw) nw).length = b.hs.length := by rw [next_len, hnl]
    generalize hC : cartI m n0 nw = C at *
    generalize hNF : nextF m C nw = nwF at *
    generalize hNI : nextI m C nw = nwI at *
    subst hhs hlo
    by_cases hf0 : 0 ≤ m.f
    · obtain ⟨f, hf, hfl, x0, p1, p2, p3, p4⟩ := hout hf0
      have hf3 : f + 1 ≤ nw.length := hfl
      have hf4 : f < b.hs.length := by omega
      by_cases ht0 : 0 ≤ m.t
      · obtain ⟨t, ht, htl, x, r1, r2, r3⟩ := hin ht0
        have ht3 : t + 1 ≤ _ := htl
        have ht4 : t < b.hs.length := by omega
        obtain ⟨h1, h2, h3, K1, K2, a1, a2, a3, a4, a5, a6, a7, a8⟩ := three (h := (h'.put i (.cells (iv nwF))).put i (.cells (iv nwI))) (i := i) (by simpa using hi) (by simp) hIl (by omega) (by omega) hcell (by omega) (ls := LS) (by omega)
          (opnT_put (cs := iv nwF) (by simp) _ (opnT_put hg _ o1)) (opnT_put (cs := iv nwF) (by simp) _ (opnT_put hg _ o2)) hd C
        simp [g36_macadamlaw03_truly_l1, e1, e2, e4, q1, q2, q4, q8, q5, q6, hk, hmm, hw, c1, c2, hf, ht, hg, hi, hfl, hf3, hf4, htl, ht3, ht4, p1, ← p2, p3, p4, r1, r2, r3, hFl, a1, a2, a3, a4, a5, a6, a7, hns]
        exact ⟨_, _, _, ⟨rfl, rfl⟩, rfl, a4, a5, a6, a7, a8⟩
      · have ht1 : m.t < 0 := by omega
        have hI1 := hI0 ht1
        subst hI1
        obtain ⟨h1, h2, h3, K1, K2, a1, a2, a3, a4, a5, a6, a7, a8⟩ := three (h := h'.put i (.cells (iv nwI))) (i := i) (by simpa using hi) (by simp) hIl (by omega) (by omega) hcell (by omega) (ls := LS) (by omega)
          (opnT_put hg _ o1) (opnT_put hg _ o2) hd C
        simp [g36_macadamlaw03_truly_l1, e1, e2, e4, q1, q2, q4, q8, q5, q6, hk, hmm, hw, c1, c2, hf, ht0, hg, hi, hfl, hf3, hf4, p1, ← p2, p3, p4, a1, a2, a3, a4, a5, a6, a7, hns]
        exact ⟨_, _, _, ⟨rfl, rfl⟩, rfl, a4, a5, a6, a7, a8⟩
    · obtain ⟨hF1, hF2⟩ := hF0 (by omega)
      subst hF1
      subst hF2
      by_cases ht0 : 0 ≤ m.t
      · obtain ⟨t, ht, htl, x, r1, r2, r3⟩ := hin ht0
        have ht3 : t + 1 ≤ _ := htl
        have ht4 : t < b.hs.length := by omega
        obtain ⟨h1, h2, h3, K1, K2, a1, a2, a3, a4, a5, a6, a7, a8⟩ := three (h := h'.put i (.cells (iv nwI))) (i := i) (by simpa using hi) (by simp) hIl (by omega) (by omega) hcell (by omega) (ls := LS) (by omega)
          (opnT_put hg _ o1) (opnT_put hg _ o2) hd C
        simp [g36_macadamlaw03_truly_l1, e1, e2, e4, q1, q2, q4, q8, q5, q6, hk, hmm, hw, c1, c2, hf0, ht, hg, hi, htl, ht3, ht4, r1, r2, r3, hFl, a1, a2, a3, a4, a5, a6, a7, hns]
        exact ⟨_, _, _, ⟨rfl, rfl⟩, rfl, a4, a5, a6, a7, a8⟩
      · have ht1 : m.t < 0 := by omega
        have hI1 := hI0 ht1
        subst hI1
        obtain ⟨h1, h2, h3, K1, K2, a1, a2, a3, a4, a5, a6, a7, a8⟩ := three (h := h') (i := i) hi hg hIl (by omega) (by omega) hcell (by omega) (ls := LS) (by omega) o1 o2 hd C
        simp [g36_macadamlaw03_truly_l1, e1, e2, e4, q1, q2, q4, q8, q5, q6, hk, hmm, hw, c1, c2, hf0, ht0, hg, hi, a1, a2, a3, a4, a5, a6, a7, hns]
        exact ⟨_, _, _, ⟨rfl, rfl⟩, rfl, a4, a5, a6, a7, a8⟩
  · rintro e' h' ⟨q1, q2, q4, q8, i, k1, k2, q5, q6, hi, hg, o1, o2, hd⟩
    rw [e1] at q1; rw [e2] at q2; rw [e4] at q4
    simp [g36_macadamlaw03_truly_l1, e1, e2, e4, q1, q2, q4, q8, q5, q6]
theorem heaps_shuts (b : Bk) (bits k) (l : List AV) : AV.shuts (heapsI b bits k) = heapsI b bits k := by
  simp only [heapsI]
  induction (List.range k) with
  | nil => rfl
  | cons x l ih => simp [ih]
theorem c36 (b : Bk) (hok : b.ok = true) (bits : List Int) (hbl : (bits.length : Int) ≤ 9223372036854775807) :
    icall pr (.fn 36 [] []) [b.v, .sl (iv bits) .shut] = some (.agg [.sl (heapsI b bits (b.ms.length + 1)) .shut, .sl (iv (loadsI b bits b.ms.length)) .shut]) := by
  refine icall_fn fn36 rfl rfl (by simp) (by simp [heaps_clean]) ?_
  have hlen := ok_len hok
  simp [g36_macadamlaw03_truly, g36_macadamlaw03_truly_c]
  refine wpr_seq (wpr_oblock (wpr_mono (l36_0 b hok bits hbl _ _ rfl rfl rfl rfl) ?_))
  rintro _ e h ⟨rfl, q1, q2, q4, q5, i, q6, hi, hg⟩
  simp at q1 q2 q4 q5
  have b1 := appC_ok (h := h) (sz := 1) (bytes := 8) (len := b.hs.length) hg (by simp [now_len]) (by simp) (by omega) (by omega)
  have hnl := now_len b bits 0
  rw [← hnl, chunk_iv, iv_shutv, hnl] at b1
  obtain ⟨h3, d1, d2, d3, d4⟩ := app_okT (h := h.new .tok) (k2 := .exact) (sz := 1) (bytes := 24) (es := []) (new := [.sl (iv (nowI b bits 0)) .shut]) (k := .exact) (.inl rfl) (by simp) (by simp) (by simp) (by simp)
  simp at d1 d2 d3
  have hg3 : h3.get i = some (.cells (iv (nowI b bits 0))) := by
    rw [d4 i (by simp; omega) (by simp), new_get, if_neg (by omega)]; exact hg
  simp [onB, onN, q1, q2, q4, q5, q6, b1, d1]
  refine wpr_seq (wpr_oblock (wpr_mono (l36_1 b hok bits hbl _ _ i (.opn (h.n + 1)) (by simp [q1]) (by simp [q2]) (by simp [q4]) (by simp [heapsI]) (.inr ⟨_, rfl, by omega, d3⟩) (by simp [q6]) (by omega) hg3 rfl) ?_))
  rintro _ e' h' ⟨rfl, r4, k1, k2, r5⟩
  simp [q4] at r4
  simp [onB, onN, r4, r5, results, rdRess, rdRes]
end Av
end

section
/- Contract: rightly. -/
set_option linter.unusedSimpArgs false
set_option linter.unusedVariables false
namespace Av
open Go (IntKind BinOp UnOp)
/-- how little is seen of what was left -/
def rtLo (n w q : Int) : Int := max 0 (n - wrapI q (w + 1))
def rtH (b : Bk) (bits : List Int) (i : Nat) : Hp := match b.hs[i]? with
  | some y => ⟨y.a, y.b, rtLo ((nowI b bits b.ms.length).getD i 0) (y.d - y.c) (pickI bits i), min 99 (rtLo ((nowI b bits b.ms.length).getD i 0) (y.d - y.c) (pickI bits i) + (y.d - y.c))⟩
  | none => ⟨0, 0, 0, 0⟩
def rtM (b : Bk) (bits : List Int) (i : Nat) : Mv := match b.ms[i]? with
  | some m => m.told (min 6 (loadI b bits i + wrapI (pickI bits i) (b.lie m.c + 1)))
  | none => ⟨0, 0, 0, 0⟩
def rtHs (b : Bk) (bits : List Int) (k : Nat) : List Hp := (List.range k).map (rtH b bits)
def rtMs (b : Bk) (bits : List Int) (k : Nat) : List Mv := (List.range k).map (rtM b bits)
/-- a book whose tallies are right -/
def Bk.rt (b : Bk) (bits : List Int) : Bk := ⟨rtHs b bits b.hs.length, rtMs b bits b.ms.length, b.l0, b.l1, b.l2, b.l3⟩
theorem rtHs_succ (b : Bk) (bits k) : rtHs b bits (k + 1) = rtHs b bits k ++ [rtH b bits k] := by simp [rtHs, List.range_succ]
theorem rtMs_succ (b : Bk) (bits k) : rtMs b bits (k + 1) = rtMs b bits k ++ [rtM b bits k] := by simp [rtMs, List.range_succ]
theorem hvs_app (a c : List Hp) : hvs (a ++ c) = hvs a ++ hvs c := by simp [hvs]
theorem mvs_app (a c : List Mv) : mvs (a ++ c) = mvs a ++ mvs c := by simp [mvs]
theorem hvs_c4 (hs : List Hp) : (hvs hs).all (fun v => decide (v.cells.length = 4)) = true := by
  induction hs with
  | nil => rfl
  | cons m ms ih => simp [hvs]
theorem mvs_c4 (ms : List Mv) : (mvs ms).all (fun v => decide (v.cells.length = 4)) = true := by
  induction ms with
  | nil => rfl
  | cons m ms ih => simp [mvs]
theorem lie_bd {b : Bk} (hok : b.ok = true) (c : Int) : 0 ≤ b.lie c ∧ b.lie c ≤ 2 := by
  have := ok_lies hok
  unfold Bk.lie; split; omega; split; omega; split <;> omega
theorem l37_0 (b : Bk) (hok : b.ok = true) (bits : List Int) (hbl : (bits.length : Int) ≤ 9223372036854775807) (HS : List AV) (LS : AV) (hHS : HS[b.ms.length]? = some (.sl (iv (nowI b bits b.ms.length)) .shut)) (e h) (e2 : e 2 = .sl (iv bits) .shut) (e3 : e 3 = b.bx)
    (e4 : e 4 = .lbox 0 [.sl HS .shut, LS]) (e7 : e 7 = .lbox 0 [.sl [] .exact, .sl [] .exact, .int .i64 b.l0, .int .i64 b.l1, .int .i64 b.l2, .int .i64 b.l3]) (e8 : e 8 = .int .i64 0) :
    wpr (den pr (.loop g37_macadamlaw03_rightly_l0) e h) fun o e' h' => o = .exit 0 ∧ e' 2 = e 2 ∧ e' 3 = e 3 ∧ e' 4 = e 4 ∧ e' 6 = e 6 ∧ ∃ k1, e' 7 = .lbox 0 [.sl (hvs (rtHs b bits b.hs.length)) k1, .sl [] .exact, .int .i64 b.l0, .int .i64 b.l1, .int .i64 b.l2, .int .i64 b.l3] := by
  have hlen := ok_len hok
  refine loop_up pr (fun k e' h' => e' 2 = e 2 ∧ e' 3 = e 3 ∧ e' 4 = e 4 ∧ e' 6 = e 6 ∧ e' 8 = .int .i64 k ∧ ∃ k1, e' 7 = .lbox 0 [.sl (hvs (rtHs b bits k)) k1, .sl [] .exact, .int .i64 b.l0, .int .i64 b.l1, .int .i64 b.l2, .int .i64 b.l3] ∧ Opn h' k1) b.hs.length ?_ ?_ 0 e h (by omega) ⟨rfl, rfl, rfl, rfl, e8, .exact, e7, trivial⟩
  · rintro k e' h' hk ⟨q2, q3, q4, q6, q8, k1, q7, ho⟩
    rw [e2] at q2; rw [e3] at q3; rw [e4] at q4
    have hy : b.hs[k]? = some b.hs[k] := List.getElem?_eq_getElem hk
    have hyo := ok_hp hok hy
    have hbd := now_bd hok bits b.ms.length (Nat.le_refl _) k hk
    have hnl := now_len b bits b.ms.length
    have hs := rtHs_succ b bits k
    have hr : rtH b bits k = ⟨b.hs[k].a, b.hs[k].b, rtLo ((nowI b bits b.ms.length).getD k 0) (b.hs[k].d - b.hs[k].c) (pickI bits k), min 99 (rtLo ((nowI b bits b.ms.length).getD k 0) (b.hs[k].d - b.hs[k].c) (pickI bits k) + (b.hs[k].d - b.hs[k].c))⟩ := by simp only [rtH, hy]
    have hx : (nowI b bits b.ms.length)[k]? = some ((nowI b bits b.ms.length).getD k 0) := by
      rw [List.getD_eq_getElem?_getD, List.getElem?_eq_getElem (by omega)]; rfl
    have hw : IntKind.wrap .i64 ((k : Int) + 1) = k + 1 := wrap_id (by omega) (by omega)
    have c1 := c86 bits hbl k
    have hrl : (hvs (rtHs b bits k)).length = k := by simp [rtHs]
    generalize hyy : b.hs[k] = y at *
    have c2 := c38 (pickI bits k) (y.d - y.c + 1) (by omega)
    have w1 := wrapI_bd (pickI bits k) (m := y.d - y.c + 1) (by omega)
    simp only [rtLo] at hr
    generalize wrapI (pickI bits k) (y.d - y.c + 1) = q at *
    generalize (nowI b bits b.ms.length).getD k 0 = n at *
    have hkn : k < (nowI b bits b.ms.length).length := by omega
    generalize nowI b bits b.ms.length = nw at *
    have v1 : IntKind.wrap .i64 (y.d - y.c) = y.d - y.c := wrap_id (by omega) (by omega)
    have v2 : IntKind.wrap .i64 (y.d - y.c + 1) = y.d - y.c + 1 := wrap_id (by omega) (by omega)
    have v3 : IntKind.wrap .i64 (n - q) = n - q := wrap_id (by omega) (by omega)
    have v4 : IntKind.wrap .i64 (max 0 (n - q) + (y.d - y.c)) = max 0 (n - q) + (y.d - y.c) := wrap_id (by omega) (by omega)
    obtain ⟨k2, h2, a1, a2, a3, a4⟩ := app_ok (k2 := .exact) (sz := 4) (bytes := 32) (es := hvs (rtHs b bits k)) (new := [.agg [.int .i64 y.a, .int .i64 y.b, .int .i64 (max 0 (n - q)), .int .i64 (min 99 (max 0 (n - q) + (y.d - y.c)))]]) ho (by simp) (hvs_c4 _) (by simp) (by simp only [List.length_cons, List.length_nil, hrl]; omega)
    simp at a1
    have hs2 : hvs (rtHs b bits (k + 1)) = hvs (rtHs b bits k) ++ [.agg [.int .i64 y.a, .int .i64 y.b, .int .i64 (max 0 (n - q)), .int .i64 (min 99 (max 0 (n - q) + (y.d - y.c)))]] := by
      rw [hs, hr, hvs_app]; rfl
    generalize hvs (rtHs b bits k) = R at *
    have hms : (b.ms.length : Int).toNat = b.ms.length := by simp
    simp [g37_macadamlaw03_rightly_l0, e2, e3, e4, q2, q3, q4, q6, q7, q8, hk, hyy, hHS, hx, c1, c2, hw, v1, v2, v3, v4, a1, a2, hs2]
  · rintro e' h' ⟨q2, q3, q4, q6, q8, k1, q7, ho⟩
    rw [e2] at q2; rw [e3] at q3; rw [e4] at q4
    simp [g37_macadamlaw03_rightly_l0, e2, e3, e4, q2, q3, q4, q6, q7, q8]
theorem l37_1 (b : Bk) (hok : b.ok = true) (bits : List Int) (hbl : (bits.length : Int) ≤ 9223372036854775807) (HS : AV) (X : List AV) (k0 : SK) (e h) (e2 : e 2 = .sl (iv bits) .shut) (e3 : e 3 = b.bx)
    (e4 : e 4 = .lbox 0 [HS, .sl (iv (loadsI b bits b.ms.length)) .shut]) (e7 : e 7 = .lbox 0 [.sl X k0, .sl [] .exact, .int .i64 b.l0, .int .i64 b.l1, .int .i64 b.l2, .int .i64 b.l3]) (e12 : e 12 = .int .i64 0) :
    wpr (den pr (.loop g37_macadamlaw03_rightly_l1) e h) fun o e' h' => o = .exit 2 ∧ e' 6 = e 6 ∧ ∃ k1, e' 7 = .lbox 0 [.sl X k0, .sl (mvs (rtMs b bits b.ms.length)) k1, .int .i64 b.l0, .int .i64 b.l1, .int .i64 b.l2, .int .i64 b.l3] := by
  have hlen := ok_len hok
  refine loop_up pr (fun k e' h' => e' 2 = e 2 ∧ e' 3 = e 3 ∧ e' 4 = e 4 ∧ e' 6 = e 6 ∧ e' 12 = .int .i64 k ∧ ∃ k1, e' 7 = .lbox 0 [.sl X k0, .sl (mvs (rtMs b bits k)) k1, .int .i64 b.l0, .int .i64 b.l1, .int .i64 b.l2, .int .i64 b.l3] ∧ Opn h' k1) b.ms.length ?_ ?_ 0 e h (by omega) ⟨rfl, rfl, rfl, rfl, e12, .exact, e7, trivial⟩
  · rintro k e' h' hk ⟨q2, q3, q4, q6, q12, k1, q7, ho⟩
    rw [e2] at q2; rw [e3] at q3; rw [e4] at q4
    have hm : b.ms[k]? = some b.ms[k] := List.getElem?_eq_getElem hk
    have hmo := ok_mv hok hm
    have hld := load_bd hok bits k
    have hs := rtMs_succ b bits k
    have hr : rtM b bits k = b.ms[k].told (min 6 (loadI b bits k + wrapI (pickI bits k) (b.lie b.ms[k].c + 1))) := by simp only [rtM, hm]
    have hx : (loadsI b bits b.ms.length)[k]? = some (loadI b bits k) := by simp [loadsI, hk]
    have hw : IntKind.wrap .i64 ((k : Int) + 1) = k + 1 := wrap_id (by omega) (by omega)
    have c1 := c86 bits hbl k
    have hrl : (mvs (rtMs b bits k)).length = k := by simp [rtMs]
    generalize hmm : b.ms[k] = m at *
    have hlb := lie_bd hok m.c
    have c2 := c38 (pickI bits k) (b.lie m.c + 1) (by omega)
    have w1 := wrapI_bd (pickI bits k) (m := b.lie m.c + 1) (by omega)
    have hc4 : m.c < 4 := by omega
    have hpl : part [.sl (hvs b.hs) .shut, .sl (mvs b.ms) .shut, .int .i64 b.l0, .int .i64 b.l1, .int .i64 b.l2, .int .i64 b.l3] (2 + m.c.toNat) 1 false = some (.int .i64 (b.lie m.c)) := by
      rcases (show m.c = 0 ∨ m.c = 1 ∨ m.c = 2 ∨ m.c = 3 by omega) with q | q | q | q <;> simp [q, Bk.lie, part]
    generalize b.lie m.c = z at *
    have v1 : IntKind.wrap .i64 (z + 1) = z + 1 := wrap_id (by omega) (by omega)
    generalize wrapI (pickI bits k) (z + 1) = q at *
    generalize loadI b bits k = n at *
    generalize loadsI b bits b.ms.length = LS at *
    have v2 : IntKind.wrap .i64 (n + q) = n + q := wrap_id (by omega) (by omega)
    obtain ⟨k2, h2, a1, a2, a3, a4⟩ := app_ok (k2 := .exact) (sz := 4) (bytes := 32) (es := mvs (rtMs b bits k)) (new := [.agg [.int .i64 m.f, .int .i64 m.t, .int .i64 m.c, .int .i64 (min 6 (n + q))]]) ho (by simp) (mvs_c4 _) (by simp) (by simp only [List.length_cons, List.length_nil, hrl]; omega)
    simp at a1
    have hs2 : mvs (rtMs b bits (k + 1)) = mvs (rtMs b bits k) ++ [.agg [.int .i64 m.f, .int .i64 m.t, .int .i64 m.c, .int .i64 (min 6 (n + q))]] := by
      rw [hs, hr, mvs_app]; rfl
    generalize mvs (rtMs b bits k) = R at *
    simp [g37_macadamlaw03_rightly_l1, e2, e3, e4, q2, q3, q4, q6, q7, q12, hk, hmm, hmo.2.2.2.1, hc4, hpl, hx, c1, c2, hw, v1, v2, a1, a2, hs2]
  · rintro e' h' ⟨q2, q3, q4, q6, q12, k1, q7, ho⟩
    rw [e2] at q2; rw [e3] at q3; rw [e4] at q4
    simp [g37_macadamlaw03_rightly_l1, e2, e3, e4, q2, q3, q4, q6, q7, q12]
theorem c37 (b : Bk) (hok : b.ok = true) (bits : List Int) (hbl : (bits.length : Int) ≤ 9223372036854775807) :
    icall pr (.fn 37 [] []) [b.v, .agg [.sl (heapsI b bits (b.ms.length + 1)) .shut, .sl (iv (loadsI b bits b.ms.length)) .shut], .sl (iv bits) .shut] = some (b.rt bits).v := by
  refine icall_fn fn37 rfl rfl (by simp [heaps_clean]) (by simp) ?_
  have hlen := ok_len hok
  have hHS : (heapsI b bits (b.ms.length + 1))[b.ms.length]? = some (.sl (iv (nowI b bits b.ms.length)) .shut) := by simp [heapsI]
  simp [g37_macadamlaw03_rightly, g37_macadamlaw03_rightly_c]
  refine wpr_seq (wpr_oblock (wpr_mono (l37_0 b hok bits hbl _ _ hHS _ _ rfl rfl rfl rfl rfl) ?_))
  rintro _ e h ⟨rfl, q2, q3, q4, q6, k1, q7⟩
  simp at q2 q3 q4 q6
  simp [onB, onN, q2, q3, q4, q6, q7]
  refine wpr_seq (wpr_oblock (wpr_mono (l37_1 b hok bits hbl (.sl (heapsI b bits (b.ms.length + 1)) .shut) (hvs (rtHs b bits b.hs.length)) k1 _ _ (by simp [q2]) (by simp [q3]) (by simp [q4]) (by simp [q7]) rfl) ?_))
  rintro _ e' h' ⟨rfl, r6, k2, r7⟩
  simp [q6] at r6
  simp [onB, onN, r6, r7, results, rdRess, rdRes, Bk.rt]
end Av
end

section
/- What is truly so is a truth of the book that is rightly told of it. -/
set_option linter.unusedSimpArgs false
set_option linter.unusedVariables false
namespace Av
open Go (IntKind BinOp UnOp)
def tru (b : Bk) (bits : List Int) : List Int := (List.range 5).map (loadI b bits)
theorem tru_get (b : Bk) (bits) (k : Nat) : (tru b bits).getD k 0 = if k < 5 then loadI b bits k else 0 := by
  simp only [tru, List.getD_eq_getElem?_getD, List.getElem?_map]
  by_cases h : k < 5
  · simp [h]
  · simp [h]
theorem tru_get' {b : Bk} (hok : b.ok = true) (bits) (k : Nat) : (tru b bits).getD k 0 = loadI b bits k := by
  rw [tru_get]
  split
  · rfl
  · have := ok_len hok
    simp only [loadI]
    rw [List.getElem?_eq_none (by omega)]
theorem tru_lok {b : Bk} (hok : b.ok = true) (bits) : lok (tru b bits) := by
  refine ⟨by simp [tru], fun n hn => ?_⟩
  simp only [tru, List.mem_map] at hn
  obtain ⟨k, _, rfl⟩ := hn
  exact load_bd hok bits k
theorem rt_hs_len (b : Bk) (bits) : (b.rt bits).hs.length = b.hs.length := by simp [Bk.rt, rtHs]
theorem rt_ms_len (b : Bk) (bits) : (b.rt bits).ms.length = b.ms.length := by simp [Bk.rt, rtMs]
theorem rt_hs_get (b : Bk) (bits) {k : Nat} {y : Hp} (hy : b.hs[k]? = some y) : (b.rt bits).hs[k]? = some ⟨y.a, y.b, rtLo ((nowI b bits b.ms.length).getD k 0) (y.d - y.c) (pickI bits k), min 99 (rtLo ((nowI b bits b.ms.length).getD k 0) (y.d - y.c) (pickI bits k) + (y.d - y.c))⟩ := by
  have hk := (List.getElem?_eq_some_iff.1 hy).1
  have : rtH b bits k = ⟨y.a, y.b, rtLo ((nowI b bits b.ms.length).getD k 0) (y.d - y.c) (pickI bits k), min 99 (rtLo ((nowI b bits b.ms.length).getD k 0) (y.d - y.c) (pickI bits k) + (y.d - y.c))⟩ := by simp only [rtH, hy]
  rw [← this]
  simp [Bk.rt, rtHs, hk]
theorem rt_ms_get (b : Bk) (bits) {k : Nat} {m : Mv} (hm : b.ms[k]? = some m) : (b.rt bits).ms[k]? = some (m.told (min 6 (loadI b bits k + wrapI (pickI bits k) (b.lie m.c + 1)))) := by
  have hk := (List.getElem?_eq_some_iff.1 hm).1
  have : rtM b bits k = m.told (min 6 (loadI b bits k + wrapI (pickI bits k) (b.lie m.c + 1))) := by simp only [rtM, hm]
  rw [← this]
  simp [Bk.rt, rtMs, hk]
theorem rt_lie (b : Bk) (bits) (c : Int) : (b.rt bits).lie c = b.lie c := rfl
theorem rtLo_bd {n w q : Int} (hn : 0 ≤ n) (hw : 0 ≤ w) : 0 ≤ rtLo n w q ∧ rtLo n w q ≤ n ∧ n ≤ rtLo n w q + w := by
  have := wrapI_bd q (m := w + 1) (by omega)
  simp only [rtLo]; omega
theorem rt_ok {b : Bk} (hok : b.ok = true) (bits) : (b.rt bits).ok = true := by
  have hlen := ok_len hok
  have h0 := hok
  simp only [Bk.ok, Bool.and_eq_true] at h0
  simp only [Bk.ok, Bool.and_eq_true, rt_hs_len, rt_ms_len]
  refine ⟨⟨⟨h0.1.1.1, ?_⟩, ?_⟩, h0.2⟩
  · rw [List.all_eq_true]
    intro y hy
    obtain ⟨k, hk⟩ := List.mem_iff_getElem?.1 hy
    have hkl := (List.getElem?_eq_some_iff.1 hk).1
    rw [rt_hs_len] at hkl
    have hz : b.hs[k]? = some b.hs[k] := List.getElem?_eq_getElem hkl
    have hzo := ok_hp hok hz
    rw [rt_hs_get b bits hz] at hk
    have hn := now_bd hok bits b.ms.length (Nat.le_refl _) k hkl
    have hr := rtLo_bd (n := (nowI b bits b.ms.length).getD k 0) (w := b.hs[k].d - b.hs[k].c) (q := pickI bits k) hn.1 (by omega)
    cases hk
    simp only [Hp.ok, decide_eq_true_eq]
    omega
  · rw [List.all_eq_true]
    intro m hm
    obtain ⟨k, hk⟩ := List.mem_iff_getElem?.1 hm
    have hkl := (List.getElem?_eq_some_iff.1 hk).1
    rw [rt_ms_len] at hkl
    have hz : b.ms[k]? = some b.ms[k] := List.getElem?_eq_getElem hkl
    have hzo := ok_mv hok hz
    rw [rt_ms_get b bits hz] at hk
    have hl := load_bd hok bits k
    have hlb := lie_bd hok b.ms[k].c
    have hw := wrapI_bd (pickI bits k) (m := b.lie b.ms[k].c + 1) (by omega)
    cases hk
    simp only [Mv.ok, Mv.told, isEnd, Bool.and_eq_true, decide_eq_true_eq]
    exact ⟨⟨decide_eq_true hzo.1, decide_eq_true hzo.2.1⟩, decide_eq_true ⟨hzo.2.2.1, by omega, by omega⟩⟩
theorem rt_more (b : Bk) (bits) (l : List Int) (h : Int) (k : Nat) : more (b.rt bits).ms l h k = more b.ms l h k := by
  induction k with
  | zero => rfl
  | succ k ih =>
    simp only [more, ih]
    cases hm : b.ms[k]? with
    | none =>
      have : (b.rt bits).ms[k]? = none := List.getElem?_eq_none (by rw [rt_ms_len]; exact List.getElem?_eq_none_iff.1 hm)
      rw [this]
    | some m => rw [rt_ms_get b bits hm]; rfl
theorem now_more {b : Bk} (hok : b.ok = true) (bits) {h : Nat} (hh : h < b.hs.length) (k : Nat) (hk : k ≤ b.ms.length) : (nowI b bits k).getD h 0 = firstI b bits h + more b.ms (tru b bits) h k := by
  induction k with
  | zero => simp [nowI, more, hh, List.getD_eq_getElem?_getD]
  | succ k ih =>
    have ih := ih (by omega)
    have hkl : k < b.ms.length := by omega
    have hm : b.ms[k]? = some b.ms[k] := List.getElem?_eq_getElem hkl
    have hmo := ok_mv hok hm
    have hl : (tru b bits).getD k 0 = cartI b.ms[k] (wrapI (pickI bits ((k : Int) + 1)) 7) (nowI b bits k) := by rw [tru_get' hok]; simp only [loadI, hm]
    have hnl := now_len b bits k
    simp only [nowI, more, hm, hl, Mv.off, Mv.onto]
    generalize b.ms[k] = m at *
    generalize cartI m (wrapI (pickI bits ((k : Int) + 1)) 7) (nowI b bits k) = C at *
    generalize nowI b bits k = nw at *
    have e1 : (nextF m C nw).getD h 0 = nw.getD h 0 + (if m.f = (h : Int) then -C else 0) := by
      simp only [nextF]
      split
      · rw [set_get]
        by_cases hq : m.f = (h : Int)
        · rw [if_pos ⟨by omega, by omega⟩, if_pos hq, show m.f.toNat = h by omega]; omega
        · rw [if_neg (fun q => hq (by omega)), if_neg hq]; omega
      · rw [if_neg (by omega)]; omega
    have hFl : (nextF m C nw).length = nw.length := by simp only [nextF]; split <;> simp
    have e2 : (nextI m C nw).getD h 0 = (nextF m C nw).getD h 0 + (if m.t = (h : Int) then C else 0) := by
      simp only [nextI]
      split
      · rw [set_get]
        by_cases hq : m.t = (h : Int)
        · rw [if_pos ⟨by omega, by omega⟩, if_pos hq, show m.t.toNat = h by omega]
        · rw [if_neg (fun q => hq (by omega)), if_neg hq]; omega
      · rw [if_neg (by omega)]; omega
    rw [e2, e1, ih]; simp only [Int.add_assoc]
theorem lowTo_leq {ms : List Mv} {l : List Int} {x lo f : Int} (hlo : lo ≤ f) (k : Nat) (h : ∀ j, j < k → - more ms l x j ≤ f) : lowTo ms l x lo k ≤ f := by
  induction k with
  | zero => exact hlo
  | succ k ih =>
    have h1 := ih fun j hj => h j (by omega)
    have h2 := h k (by omega)
    simp only [lowTo]; omega
/-- what was in a heap at first is what it can have had -/
theorem rt_first {b : Bk} (hok : b.ok = true) (bits) {h : Nat} {y z : Hp} (hy : b.hs[h]? = some y) (hz : (b.rt bits).hs[h]? = some z) :
    (b.rt bits).firstLo (tru b bits) h z ≤ firstI b bits h ∧ firstI b bits h ≤ (b.rt bits).firstHi (tru b bits) h z := by
  have hlen := ok_len hok
  have hh := (List.getElem?_eq_some_iff.1 hy).1
  have hf := first_bd hok bits hy
  have hyo := ok_hp hok hy
  rw [rt_hs_get b bits hy] at hz
  have hn := now_bd hok bits b.ms.length (Nat.le_refl _) h hh
  have hm := now_more hok bits hh b.ms.length (Nat.le_refl _)
  have hr := rtLo_bd (n := (nowI b bits b.ms.length).getD h 0) (w := y.d - y.c) (q := pickI bits h) hn.1 (by omega)
  cases hz
  simp only [Bk.firstLo, Bk.firstHi, rt_ms_len, rt_more]
  generalize rtLo ((nowI b bits b.ms.length).getD h 0) (y.d - y.c) (pickI bits h) = r at *
  refine ⟨lowTo_leq (by omega) _ fun j hj => ?_, by omega⟩
  rw [rt_more]
  have h1 := now_bd hok bits j (by omega) h hh
  have h2 := now_more hok bits hh j (by omega)
  omega
theorem rt_tr {b : Bk} (hok : b.ok = true) (bits) : Trn (b.rt bits) (tru b bits) := by
  have hlen := ok_len hok
  refine ⟨tru_lok hok bits, fun j hj => ?_, fun j hj => ?_, ?_⟩
  · rw [rt_ms_len] at hj
    rw [tru_get' hok]; simp only [loadI]; rw [List.getElem?_eq_none hj]
  · rw [rt_ms_len] at hj
    have hm : b.ms[j]? = some b.ms[j] := List.getElem?_eq_getElem hj
    have hl := load_bd hok bits j
    have hlb := lie_bd hok b.ms[j].c
    have hw := wrapI_bd (pickI bits j) (m := b.lie b.ms[j].c + 1) (by omega)
    refine (right_iff (rt_ms_get b bits hm)).2 (.inr ?_)
    rw [tru_get' hok, rt_lie]
    simp only [Mv.told]
    omega
  · rw [fits_iff]
    intro k z hz
    have hk := (List.getElem?_eq_some_iff.1 hz).1
    rw [rt_hs_len] at hk
    have := rt_first hok bits (List.getElem?_eq_getElem hk) hz
    omega
theorem rt_can {b : Bk} (hok : b.ok = true) (bits) : (b.rt bits).c = true := (can_iff (rt_ok hok bits)).2 ⟨_, rt_tr hok bits⟩
theorem rt_wrong {b : Bk} (hok : b.ok = true) (bits) : (b.rt bits).wrongO = some [] := by
  have hx := rt_ok hok bits
  have hc : (b.rt bits).can (inL []) = true := rt_can hok bits
  cases hV : (b.rt bits).wrongO with
  | none => rw [wrong_none hx hV [] rfl] at hc; cases hc
  | some V =>
    have := (wrong_spec hx hV).2.2.2 [] rfl hc (by simp)
    cases V with
    | nil => rfl
    | cons v V => simp [fewer] at this
/-- what was in a heap behind so many loads lies between what is told -/
theorem rt_heap {b : Bk} (hok : b.ok = true) (bits) {h k : Nat} (hh : h < b.hs.length) (hk : k ≤ b.ms.length) :
    (tell (heapF (b.rt bits) h k) (b.rt bits).T).1 ≤ (nowI b bits k).getD h 0 ∧ (nowI b bits k).getD h 0 ≤ (tell (heapF (b.rt bits) h k) (b.rt bits).T).2 := by
  have hx := rt_ok hok bits
  have hy : b.hs[h]? = some b.hs[h] := List.getElem?_eq_getElem hh
  have hz := rt_hs_get b bits hy
  obtain ⟨_, _, _, h1, _⟩ := heap_span hx (rt_can hok bits) hz (k := k) (by rw [rt_ms_len]; exact hk)
  have h2 := h1 _ (rt_tr hok bits)
  have h3 := rt_first hok bits hy hz
  have h4 := now_more hok bits hh k hk
  rw [rt_more] at h2
  omega
end Av
end

section
/- The law of the yards. -/
set_option linter.unusedSimpArgs false
set_option linter.unusedVariables false
namespace Av
open Go (IntKind BinOp UnOp)
def liedB (X : Bk) (l : List Int) (k : Nat) : List AV := [.bool ((liedTo X.ms l k).testBit 0), .bool ((liedTo X.ms l k).testBit 1), .bool ((liedTo X.ms l k).testBit 2), .bool ((liedTo X.ms l k).testBit 3)]
theorem l6_0 (X : Bk) (hxo : X.ok = true) (l : List Int) (hl : lok l) (LS : List AV) (hLS : ∀ m, m < X.ms.length → LS[m]? = some (.int .i64 (l.getD m 0))) (y : Int) (HS : AV) (e h) (e7 : e 7 = .lbox 0 [HS, .sl LS .shut]) (e8 : e 8 = X.bx) (e11 : e 11 = .int .i64 y)
    (e24 : e 24 = .int .i64 0) (e25 : e 25 = .int .i64 0) (e26 : e 26 = .lbox 0 [.bool false, .bool false, .bool false, .bool false]) (e27 : e 27 = .int .i64 0) :
    wpr (den pr (.loop g6_macadamlaw03_StoneTrue_l0) e h) fun o e' h' => o = .exit 0 ∧ e' 24 = .int .i64 (allTo X.ms (fun m => decide (m.t = -1)) l X.ms.length) ∧ e' 25 = .int .i64 (allTo X.ms (fun m => decide (m.c = y)) l X.ms.length) ∧ e' 26 = .lbox 0 (liedB X l X.ms.length) ∧
      e' 3 = e 3 ∧ e' 5 = e 5 ∧ e' 7 = e 7 ∧ e' 8 = e 8 ∧ e' 18 = e 18 ∧ e' 20 = e 20 ∧ e' 22 = e 22 := by
  have hlen := ok_len hxo
  refine loop_up pr (fun k e' h' => e' 24 = .int .i64 (allTo X.ms (fun m => decide (m.t = -1)) l k) ∧ e' 25 = .int .i64 (allTo X.ms (fun m => decide (m.c = y)) l k) ∧ e' 26 = .lbox 0 (liedB X l k) ∧ e' 27 = .int .i64 k ∧
      e' 3 = e 3 ∧ e' 5 = e 5 ∧ e' 7 = e 7 ∧ e' 8 = e 8 ∧ e' 11 = e 11 ∧ e' 18 = e 18 ∧ e' 20 = e 20 ∧ e' 22 = e 22) X.ms.length ?_ ?_ 0 e h (by omega) ⟨e24, e25, by rw [e26]; simp [liedB, liedTo], e27, rfl, rfl, rfl, rfl, rfl, rfl, rfl, rfl⟩
  · rintro k e' h' hk ⟨q24, q25, q26, q27, q3, q5, q7, q8, q11, q18, q20, q22⟩
    rw [e7] at q7; rw [e8] at q8; rw [e11] at q11
    have hm : X.ms[k]? = some X.ms[k] := List.getElem?_eq_getElem hk
    have hmo := ok_mv hxo hm
    have hw : IntKind.wrap .i64 ((k : Int) + 1) = k + 1 := wrap_id (by omega) (by omega)
    have d1 := allTo_bd X.ms (fun m => decide (m.t = -1)) hl k
    have d2 := allTo_bd X.ms (fun m => decide (m.c = y)) hl k
    have hlk := lok_get hl k
    have t1 : allTo X.ms (fun m => decide (m.t = -1)) l (k + 1) = allTo X.ms (fun m => decide (m.t = -1)) l k + (if X.ms[k].t = -1 then l.getD k 0 else 0) := by simp only [allTo, hm, decide_eq_true_eq]
    have t2 : allTo X.ms (fun m => decide (m.c = y)) l (k + 1) = allTo X.ms (fun m => decide (m.c = y)) l k + (if X.ms[k].c = y then l.getD k 0 else 0) := by simp only [allTo, hm, decide_eq_true_eq]
    have t3 : ∀ c, (liedTo X.ms l (k + 1)).testBit c = ((liedTo X.ms l k).testBit c || (decide (l.getD k 0 < X.ms[k].n) && decide (X.ms[k].c.toNat = c))) := fun c => by
      simp only [liedTo, hm, Nat.testBit_or]
      by_cases q : l.getD k 0 < X.ms[k].n
      · simp only [q, if_true, Nat.testBit_two_pow, decide_true, Bool.true_and]
      · simp only [q, if_false, Nat.zero_testBit, decide_false, Bool.false_and]
    have hx := hLS k hk
    simp only [liedB, t3]
    simp only [liedB] at q26
    generalize hmm : X.ms[k] = m at *
    generalize allTo X.ms (fun m => decide (m.t = -1)) l k = A at *
    generalize allTo X.ms (fun m => decide (m.c = y)) l k = C at *
    generalize l.getD k 0 = n at *
    generalize (liedTo X.ms l k).testBit 0 = b0 at *
    generalize (liedTo X.ms l k).testBit 1 = b1 at *
    generalize (liedTo X.ms l k).testBit 2 = b2 at *
    generalize (liedTo X.ms l k).testBit 3 = b3 at *
    have v1 : IntKind.wrap .i64 (A + n) = A + n := wrap_id (by omega) (by omega)
    have v2 : IntKind.wrap .i64 (C + n) = C + n := wrap_id (by omega) (by omega)
    have q2 : (m.t < 0) = (m.t = -1) := propext ⟨fun h => by omega, fun h => by omega⟩
    rcases (show m.c = 0 ∨ m.c = 1 ∨ m.c = 2 ∨ m.c = 3 by omega) with q4 | q4 | q4 | q4
    · rw [q4] at t2; simp only [q4]
      by_cases q6 : 0 = y
      · subst q6
        by_cases q1 : m.t = -1 <;> cases b0 <;> simp [g6_macadamlaw03_StoneTrue_l0, q24, q25, q26, q27, q3, q5, q7, q8, q11, q18, q20, q22, e7, e8, e11, hk, hmm, hw, hx, q4, q1, q2, v1, v2, t1, t2]
      · by_cases q1 : m.t = -1 <;> cases b0 <;> simp [g6_macadamlaw03_StoneTrue_l0, q24, q25, q26, q27, q3, q5, q7, q8, q11, q18, q20, q22, e7, e8, e11, hk, hmm, hw, hx, q4, q1, q2, q6, v1, v2, t1, t2]
    · rw [q4] at t2; simp only [q4]
      by_cases q6 : 1 = y
      · subst q6
        by_cases q1 : m.t = -1 <;> cases b1 <;> simp [g6_macadamlaw03_StoneTrue_l0, q24, q25, q26, q27, q3, q5, q7, q8, q11, q18, q20, q22, e7, e8, e11, hk, hmm, hw, hx, q4, q1, q2, v1, v2, t1, t2]
      · by_cases q1 : m.t = -1 <;> cases b1 <;> simp [g6_macadamlaw03_StoneTrue_l0, q24, q25, q26, q27, q3, q5, q7, q8, q11, q18, q20, q22, e7, e8, e11, hk, hmm, hw, hx, q4, q1, q2, q6, v1, v2, t1, t2]
    · rw [q4] at t2; simp only [q4]
      by_cases q6 : 2 = y
      · subst q6
        by_cases q1 : m.t = -1 <;> cases b2 <;> simp [g6_macadamlaw03_StoneTrue_l0, q24, q25, q26, q27, q3, q5, q7, q8, q11, q18, q20, q22, e7, e8, e11, hk, hmm, hw, hx, q4, q1, q2, v1, v2, t1, t2]
      · by_cases q1 : m.t = -1 <;> cases b2 <;> simp [g6_macadamlaw03_StoneTrue_l0, q24, q25, q26, q27, q3, q5, q7, q8, q11, q18, q20, q22, e7, e8, e11, hk, hmm, hw, hx, q4, q1, q2, q6, v1, v2, t1, t2]
    · rw [q4] at t2; simp only [q4]
      by_cases q6 : 3 = y
      · subst q6
        by_cases q1 : m.t = -1 <;> cases b3 <;> simp [g6_macadamlaw03_StoneTrue_l0, q24, q25, q26, q27, q3, q5, q7, q8, q11, q18, q20, q22, e7, e8, e11, hk, hmm, hw, hx, q4, q1, q2, v1, v2, t1, t2]
      · by_cases q1 : m.t = -1 <;> cases b3 <;> simp [g6_macadamlaw03_StoneTrue_l0, q24, q25, q26, q27, q3, q5, q7, q8, q11, q18, q20, q22, e7, e8, e11, hk, hmm, hw, hx, q4, q1, q2, q6, v1, v2, t1, t2]
  · rintro e' h' ⟨q24, q25, q26, q27, q3, q5, q7, q8, q11, q18, q20, q22⟩
    rw [e7] at q7; rw [e8] at q8; rw [e11] at q11
    simp [g6_macadamlaw03_StoneTrue_l0, q24, q25, q26, q27, q3, q5, q7, q8, q11, q18, q20, q22, e7, e8]
theorem l6_1 (X : Bk) (l : List Int) (n : Nat) (L : List Int) (hL : (L.length : Int) ≤ 1000) (hb : ∀ x ∈ L, ∃ c : Nat, c < 4 ∧ x = c ∧ (liedTo X.ms l n).testBit c = true) (e h) (e26 : e 26 = .lbox 0 (liedB X l n)) (e22 : e 22 = .sl (iv L) .shut) (e29 : e 29 = .int .i64 0) :
    wpr (den pr (.loop g6_macadamlaw03_StoneTrue_l1) e h) fun o e' h' => o = .exit 2 ∧ e' 3 = e 3 ∧ e' 5 = e 5 ∧ e' 7 = e 7 ∧ e' 8 = e 8 ∧ e' 18 = e 18 ∧ e' 20 = e 20 ∧ e' 24 = e 24 ∧ e' 25 = e 25 := by
  refine loop_up pr (fun k e' h' => e' 29 = .int .i64 k ∧ e' 22 = e 22 ∧ e' 26 = e 26 ∧ e' 3 = e 3 ∧ e' 5 = e 5 ∧ e' 7 = e 7 ∧ e' 8 = e 8 ∧ e' 18 = e 18 ∧ e' 20 = e 20 ∧ e' 24 = e 24 ∧ e' 25 = e 25) L.length ?_ ?_ 0 e h (by omega) ⟨e29, rfl, rfl, rfl, rfl, rfl, rfl, rfl, rfl, rfl, rfl⟩
  · rintro k e' h' hk ⟨q29, q22, q26, q3, q5, q7, q8, q18, q20, q24, q25⟩
    rw [e22] at q22
    rw [e26] at q26
    simp only [liedB] at q26
    have hw : IntKind.wrap .i64 ((k : Int) + 1) = k + 1 := wrap_id (by omega) (by omega)
    obtain ⟨c, h1, h2, h3⟩ := hb L[k] (List.getElem_mem hk)
    have e26' := e26
    simp only [liedB] at e26'
    rcases (show c = 0 ∨ c = 1 ∨ c = 2 ∨ c = 3 by omega) with rfl | rfl | rfl | rfl <;> rw [h3] at q26 e26' <;>
      simp [g6_macadamlaw03_StoneTrue_l1, q29, q22, q26, q3, q5, q7, q8, q18, q20, q24, q25, e22, e26', hk, h2, hw]
  · rintro e' h' ⟨q29, q22, q26, q3, q5, q7, q8, q18, q20, q24, q25⟩
    rw [e22] at q22
    simp [g6_macadamlaw03_StoneTrue_l1, q29, q22, q26, q3, q5, q7, q8, q18, q20, q24, q25]
theorem law6 (b : Bk) (hb : b.fit) (bits : List Int) (hbl : (bits.length : Int) ≤ 9223372036854775807) (n0 n1 n2 n3 : Int) : ∃ h', dcall pr (.fn 6 [] []) [b.v, .sl (iv bits) .shut, .agg [.int .i64 n0, .int .i64 n1, .int .i64 n2, .int .i64 n3]] H.emp = some (.bool true, h') := by
  refine law_of fn6 rfl ?_
  have c1 := c35 b hb
  cases hok : b.ok with
  | false =>
    rw [hok] at c1
    simp [g6_macadamlaw03_StoneTrue, g6_macadamlaw03_StoneTrue_c, c1, c23, results, rdRess, rdRes]
  | true =>
  rw [hok] at c1
  have hlen := ok_len hok
  have c2 := c36 b hok bits hbl
  have c3 := c37 b hok bits hbl
  have c4 := c38 n1 b.hs.length (by omega)
  have c5 := c38 n2 (b.ms.length + 1) (by omega)
  have c6 := c38 n3 4 (by omega)
  have w1 := wrapI_bd n1 (m := b.hs.length) (by omega)
  have w2 := wrapI_bd n2 (m := b.ms.length + 1) (by omega)
  have w3 := wrapI_bd n3 (m := 4) (by omega)
  have hw0 : IntKind.wrap .i64 ((b.ms.length : Int) + 1) = b.ms.length + 1 := wrap_id (by omega) (by omega)
  obtain ⟨hp, hh⟩ := toInt w1.1
  obtain ⟨k, hk⟩ := toInt w2.1
  rw [hh] at c4 w1
  rw [hk] at c5 w2
  generalize wrapI n3 4 = y at *
  have hhl : hp < b.hs.length := by omega
  have hkl : k ≤ b.ms.length := by omega
  have hxo := rt_ok hok bits
  have hcx := rt_can hok bits
  have htr := rt_tr hok bits
  have hxw := rt_wrong hok bits
  have hxh := rt_heap hok bits hhl hkl
  have hxl := rt_hs_len b bits
  have hxm := rt_ms_len b bits
  have hloads : ∀ m, m < (b.rt bits).ms.length → (iv (loadsI b bits b.ms.length))[m]? = some (.int .i64 ((tru b bits).getD m 0)) := fun m hm => by
    rw [hxm] at hm
    rw [tru_get' hok]
    simp [loadsI, hm]
  have hll : ∀ m, m < b.ms.length → loadI b bits m = (tru b bits).getD m 0 := fun m _ => (tru_get' hok bits m).symm
  have hHS : (heapsI b bits (b.ms.length + 1))[k]? = some (.sl (iv (nowI b bits k)) .shut) := by simp only [heapsI, List.getElem?_map, List.getElem?_range (show k < b.ms.length + 1 by omega), Option.map_some]
  have hnl := now_len b bits k
  have hng : (nowI b bits k)[hp]? = some ((nowI b bits k).getD hp 0) := by
    rw [List.getD_eq_getElem?_getD, List.getElem?_eq_getElem (by omega)]; rfl
  have hcl := heaps_clean b bits (b.ms.length + 1)
  generalize (nowI b bits k).getD hp 0 = now at *
  generalize nowI b bits k = nowL at *
  have hnl' : hp < nowL.length := by omega
  generalize heapsI b bits (b.ms.length + 1) = HS at *
  have hHl : k < HS.length := (List.getElem?_eq_some_iff.1 hHS).1
  generalize iv (loadsI b bits b.ms.length) = LS at *
  generalize tru b bits = l at *
  generalize b.rt bits = X at *
  have hX := ok_fit hxo
  have a1 := c15 X hX
  have a2 := c33 X hX
  have a3 := c21 X hX hp k
  have a4 := c24 X hX
  have a5 := c26 X hX y 3
  have a6 := c28 X hX
  have e10 : X.wrong = ([], 0) := by simp only [Bk.wrong, hxo, if_true, hxw]
  have hcx2 : X.can (inL []) = true := hcx
  rw [hxo, hcx2] at a1
  rw [e10] at a2
  rw [heap_ok hxo (by omega) (by omega), hcx] at a3
  rw [laid_ok hxo, hcx] at a4
  rw [owed_ok hxo (by omega) (by omega), hcx] at a5
  rw [liars_eq hxo, hcx] at a6
  simp only [if_true, spanV, iv_nil] at a1 a2 a3 a4 a5 a6
  have f1 := c39 (tell (heapF X hp k) X.T).1 (tell (heapF X hp k) X.T).2 now
  rw [decide_eq_true hxh] at f1
  have f2 := c40 X.liarL (by have := liar_len X; omega) 4
  have hr : rising 4 (-1) X.liarL = true := outs_rising _
  rw [hr] at f2
  have hliar : ∀ x ∈ X.liarL, ∃ c : Nat, c < 4 ∧ x = c ∧ (liedTo X.ms l X.ms.length).testBit c = true := fun x hx => by
    obtain ⟨c, h1, h2⟩ := liar_lt hx
    refine ⟨c, h1, h2, ?_⟩
    subst h2
    obtain ⟨j, m, h3, h4, h5⟩ := (liar_mem hxo c h1).1 hx l htr
    exact (lied_bit hxo l c _).2 ⟨j, m, (List.getElem?_eq_some_iff.1 h3).1, h3, h4, h5⟩
  have hll2 := liar_len X
  have g1 := (tell_T hxo hcx (allF X fun m => decide (m.t = -1))).1 l htr
  have g2 := (tell_T hxo hcx (allF X fun m => decide (m.c = y))).1 l htr
  simp only [allF] at g1 g2 a4 a5
  generalize tell (allF X fun m => decide (m.t = -1)) X.T = T1 at *
  generalize tell (allF X fun m => decide (m.c = y)) X.T = T2 at *
  have d1 := allTo_bd X.ms (fun m => decide (m.t = -1)) htr.lok X.ms.length
  have d2 := allTo_bd X.ms (fun m => decide (m.c = y)) htr.lok X.ms.length
  have f3 := c39 T1.1 T1.2 (allTo X.ms (fun m => decide (m.t = -1)) l X.ms.length)
  rw [decide_eq_true g1] at f3
  have f4 := c39 (T2.1 * 3) (T2.2 * 3) (3 * allTo X.ms (fun m => decide (m.c = y)) l X.ms.length)
  rw [decide_eq_true (by omega)] at f4
  have hw3 : IntKind.wrap .i64 (3 * allTo X.ms (fun m => decide (m.c = y)) l X.ms.length) = 3 * allTo X.ms (fun m => decide (m.c = y)) l X.ms.length := wrap_id (by omega) (by omega)
  generalize tell (heapF X hp k) X.T = T0 at *
  simp [g6_macadamlaw03_StoneTrue, g6_macadamlaw03_StoneTrue_c, c1, c2, c3, c4, c5, c6, hw0, a1, a2, a3, a4, a5, a6, hHS, hng, f1, f2]

  refine wpr_seq (wpr_oblock (wpr_mono (l6_0 X hxo l htr.lok LS hloads y (.sl HS .shut) _ _ rfl rfl rfl rfl rfl rfl rfl) ?_))
  rintro _ e h ⟨rfl, q24, q25, q26, q3, q5, q7, q8, q18, q20, q22⟩
  simp at q3 q5 q7 q8 q18 q20 q22
  simp [onB, onN, q24, q25, q26, q3, q5, q7, q8, q18, q20, q22]
  refine wpr_seq (wpr_oblock (wpr_mono (l6_1 X l X.ms.length X.liarL (by omega) hliar _ _ (by simp [q26]) (by simp [q22]) rfl) ?_))
  rintro _ e' h' ⟨rfl, r3, r5, r7, r8, r18, r20, r24, r25⟩
  simp [q24, q25, q3, q5, q7, q8, q18, q20] at r3 r5 r7 r8 r18 r20 r24 r25
  by_cases hm0 : b.ms.length = 0
  · have hm0' : b.ms = [] := List.length_eq_zero_iff.1 hm0
    simp [onB, onN, r3, r5, r7, r8, r18, r20, r24, r25, f3, f4, hw3, hm0, hm0', c23, results, rdRess, rdRes]
  · have hm0' : ¬ b.ms = [] := fun h => hm0 (by rw [h]; rfl)
    have d4 := c38 n0 b.ms.length (by omega)
    have w4 := wrapI_bd n0 (m := b.ms.length) (by omega)
    obtain ⟨j, hj⟩ := toInt w4.1
    rw [hj] at d4 w4
    have hjl : j < X.ms.length := by omega
    have d5 := c19 X hX j
    have d6 := c31 X hX j (l.getD j 0)
    have hlj := lok_get htr.lok j
    rw [yards_ok hxo hjl, hcx] at d5
    rw [fits_ok hxo hjl hlj, hcx] at d6
    have hany : X.T.any (fun l' => decide (l'.getD j 0 = l.getD j 0)) = true := (any_iff hxo).2 ⟨l, htr, by simp⟩
    rw [hany] at d6
    simp only [if_true, spanV] at d5 d6
    obtain ⟨_, _, _, s4, _⟩ := yard_span hxo hcx hjl
    have s5 := s4 l htr
    have f5 := c39 (tell (yardF j) X.T).1 (tell (yardF j) X.T).2 (l.getD j 0)
    rw [decide_eq_true s5] at f5
    have hlo := hloads j hjl
    have hLl : j < LS.length := (List.getElem?_eq_some_iff.1 hlo).1
    generalize tell (yardF j) X.T = T5 at *
    generalize l.getD j 0 = n at *
    simp [onB, onN, r3, r5, r7, r8, r18, r20, r24, r25, f3, f4, hw3, hm0, hm0', c23, d4, d5, d6, f5, hlo, results, rdRess, rdRes]
end Av
end

section
/- StoneTrue returns true for every input, and its input reads as it did: no condition. -/
namespace Go.Proofs.YtpjhmbfpfbpciaaDoor.stoneTrueProof
open Go Go.Proofs Go.Proofs.YtpjhmbfpfbpciaaDoor Go.ChangeShapes Go.WideShapes Go.ChangeAt Go.RowKit Av
set_option linter.constructorNameAsVariable false
set_option linter.unusedVariables false
set_option maxRecDepth 20000

theorem contract (H : Type) (enc : TypeId × Value → H) (W : World) (base : Nat) (args : Array Value) (ds gs : List (DataW H)) (before : List MemPlace)
    (hval : ∀ (j : Nat) t v, Tryd.f6.params[j]? = some t → args[j]? = some v → Value.okWide Tryd.prog W .any base t v)
    (hW : DataW.Whole enc Tryd.prog Tryd.f6.params.toList Rows.stoneTrueSpec.vars false W args.toList ds gs before) (hL : Globs W) :
    Calls Tryd.prog 6 args W fun e W' => ∃ v, e = .returned v ∧ Rows.stoneTrueSpec.post enc Tryd.prog Tryd.f6 false true false false W args v W' := by
  have hW' := hW
  have hlt := fun p hp => hW.lt p hp
  obtain ⟨p, q, hA0, hV, rfl, hfz, hnd⟩ := hW
  have hA : DataW.TrodAll enc Tryd.prog W 0 (fun _ => true) true Tryd.f6.params.toList args.toList ds p := hA0
  rw [Tryd.params6] at hA hval
  obtain ⟨v0, vs0, d0, ds0, p0, q0, hargs, rfl, rfl, h0, r0⟩ := trodAll_cons hA
  obtain ⟨v1, vs1, d1, ds1, p1, q1, rfl, rfl, rfl, h1, r1⟩ := trodAll_cons r0
  obtain ⟨v2, vs2, d2, ds2, p2, q2, rfl, rfl, rfl, h2, r2⟩ := trodAll_cons r1
  obtain ⟨rfl, rfl, rfl⟩ := trodAll_nil r2
  obtain rfl : args = #[v0, v1, v2] := by cases args; simp_all
  obtain ⟨rfl, rfl⟩ := trodVars_none hV
  obtain ⟨hs, ms, ls, w1, w2, w3, hVR0⟩ := book_open (hval 0 26 v0 rfl rfl) h0
  obtain ⟨b, hb, hbv⟩ := bk_of w1 w2 w3
  rw [hbv] at hVR0
  obtain ⟨fu1, hf1⟩ := h1
  have h1 : DataW.Trod enc Tryd.prog W 0 (fun _ => true) true 41 v1 d1 p1 := ⟨fu1, hf1⟩
  obtain ⟨ck1, cc1⟩ := sl_cells u41 (hval 1 41 v1 rfl rfl)
  rw [cc1] at hf1
  obtain ⟨rows1, x1, y1, hVR1⟩ := sl_read u41 t3 c3 (by omega) (spot_of u41 ck1) hf1
  obtain ⟨l1, hl1, hlv1⟩ := sl_of ⟨x1, y1⟩
  rw [hlv1] at hVR1
  obtain ⟨ns2, z2, hVR2⟩ := arr_open u24 t24 (hval 2 24 v2 rfl rfl) h2
  obtain ⟨z2, _⟩ := z2
  obtain ⟨n20, n21, n22, n23, rfl⟩ : ∃ n20 n21 n22 n23, ns2 = [n20, n21, n22, n23] := by
    match ns2, z2 with
    | [n20, n21, n22, n23], _ => exact ⟨_, _, _, _, rfl⟩
  obtain ⟨h', hx⟩ := law6 b hb l1 hl1 n20 n21 n22 n23
  refine (law_ok (start_ok hL.1 hL.2.1 hL.2.2.1 hL.2.2.2) (by omega) hx (.cons hVR0 (.cons hVR1 (.cons hVR2 .nil)))).mono fun e W' ⟨he, hg, hsame⟩ => ?_
  subst he
  simp only [List.append_nil, List.nil_append] at hW' hlt
  have hq : ∀ (i : MemPlace), i ∈ (p0 ++ (p1 ++ (p2 ++ []))) → i.block < W.heap.size := fun i hi => hlt i (by simpa using hi)
  have harg : ∀ sp : Nat → Bool, (∀ p ∈ (p0 ++ (p1 ++ (p2 ++ []))), sp p.block = true) → DataW.TrodAll enc Tryd.prog W' 0 sp true [26, 41, 24] [v0, v1, v2] [d0, d1, d2] (p0 ++ (p1 ++ (p2 ++ []))) := fun sp hsp =>
    (trodAll_cons_mk (trod_stay1 rec26 row26 h0 hsame (fun p hp => hq p (by simp [hp])) fun p hp => hsp p (by simp [hp])) (trodAll_cons_mk (trod_stay1 rec41 row41 h1 hsame (fun p hp => hq p (by simp [hp])) fun p hp => hsp p (by simp [hp])) (trodAll_cons_mk (trod_stay1 rec24 row24 h2 hsame (fun p hp => hq p (by simp [hp])) fun p hp => hsp p (by simp [hp])) trodAll_mk0)))
  exact ⟨_, rfl, post_of_same (pa := (p0 ++ (p1 ++ (p2 ++ [])))) (pv := []) hW' (fun _ _ _ => trodAll_cons_mk (shut_bool Tryd.underlying4 _) trodAll_mk0) (fun sp hsp => harg sp (by simpa using hsp)) (fun _ _ => rfl) (by simp)
    (hg.frame _) hg.2.1 (ok_one (by kernel_rfl) rfl (okWide_bool_mk Tryd.underlying4 _))⟩

theorem met (os : Os) : laidMetH Tryd.prog Rows.stoneTrueRow.laid ((laidWorld os).forCall (fun _ _ => 0) ⟨#[], #[bookZ, .slice none 0 0, .agg #[.int .i64 0, .int .i64 0, .int .i64 0, .int .i64 0]], []⟩).memory :=
  laidMetH_of_parts3 (fuel := 8) (laidMet_of_run' 8 (by kernel_rfl) (by kernel_rfl)) (by kernel_rfl) (by kernel_rfl)
theorem reads (os : Os) {H : Type} (enc : TypeId × Value → H) : ∃ places, DataW.whole enc Tryd.prog ((laidWorld os).forCall (fun _ _ => 0) ⟨#[], #[bookZ, .slice none 0 0, .agg #[.int .i64 0, .int .i64 0, .int .i64 0, .int .i64 0]], []⟩).memory Tryd.f6.params.toList Rows.stoneTrueSpec.vars false (#[bookZ, .slice none 0 0, .agg #[.int .i64 0, .int .i64 0, .int .i64 0, .int .i64 0]] : Array Value).toList 8 = some ([bookD, .nil, .agg [.lit (.int .i64 0), .lit (.int .i64 0), .lit (.int .i64 0), .lit (.int .i64 0)]], [], places) :=
  ⟨[], by kernel_rfl⟩
set_option maxRecDepth 100000 in
theorem lifted (os : Os) (started : os.Started) (H : Type) (enc : TypeId × Value → H) (F : Stop.Interp) :
    ReturnsInHanded {} Tryd.checked os 6 .any ((OpenSpec.ofChange Rows.stoneTrueSpec).preRow enc Tryd.prog Tryd.f6 Rows.stoneTrueRow.domain false Rows.stoneTrueRow.laid) (((OpenSpec.ofChange Rows.stoneTrueSpec).at F).post enc Tryd.prog Tryd.f6 false true false false) := by
  obtain ⟨places, hx⟩ := reads os enc
  refine returnsInHanded_of_row (C := Tryd.checked) (s := OpenSpec.ofChange Rows.stoneTrueSpec) ownK started (by kernel_rfl) Tryd.func6
    (witness_row_at (enc := enc) (C := Tryd.checked) false (laidWorld os) #[bookZ, .slice none 0 0, .agg #[.int .i64 0, .int .i64 0, .int .i64 0, .int .i64 0]] rfl (by kernel_rfl) (by kernel_rfl) (by kernel_rfl)
      (OpenSpec.preRow_of_cond 8 hx (by kernel_rfl) (fun k hk => by cases hk) (by kernel_rfl) (met os))) ?_
  intro W base args ds gs before hval hW _ _ _ hL _ _
  exact contract H enc W base args ds gs before hval hW (globs_of hL)
theorem said : Rows.StoneTrueSaid :=
  OpenClaim.holds_of_cond 6 Tryd.f6 rfl rfl rfl rfl rfl rfl rfl ⟨rfl, rfl, rfl, rfl, rfl⟩ rfl rfl rfl rfl rfl (by kernel_rfl) Tryd.func6 (by kernel_rfl)
    (of_decide_eq_true (by kernel_rfl)) (by unfold Func.isWrapper; first | (rw [if_pos (by decide +kernel)]; kernel_rfl) | (rw [if_neg (by decide +kernel)]; exact ⟨rfl, rfl⟩))
    (fun os started H enc _ F => by rw [OpenClaim.pre_eq_preRow]; exact lifted os started H enc F)
theorem plain (f : FuncId) (fn : Func) (hf : Tryd.pinned.checked.prog.funcNamed "macadam/macadamlaw03.StoneTrue" = some f) (hfn : Tryd.pinned.checked.prog.funcs[f]? = some fn) :
    false = Tryd.pinned.checked.prog.looks [] ∧ ∀ (j : Nat) t, fn.params[j]? = some t → Tryd.pinned.checked.prog.wantsStandIn t = false := by
  obtain rfl : f = 6 := Option.some.inj ((show Tryd.prog.funcNamed "macadam/macadamlaw03.StoneTrue" = some 6 by kernel_rfl).symm.trans hf) |>.symm
  obtain rfl : fn = Tryd.f6 := (Option.some.inj (Tryd.func6.symm.trans hfn)).symm
  refine ⟨by kernel_rfl, fun j t ht => ?_⟩
  rw [Tryd.params6] at ht
  have hm : t ∈ [26, 41, 24] := by simpa using Array.mem_of_getElem? ht
  simp only [List.mem_cons, List.not_mem_nil, or_false] at hm
  rcases hm with rfl | rfl | rfl
  · exact want26
  · exact want41
  · exact want24
theorem card : Rows.StoneTrueCardSaid :=
  Claim7.holds_tied_plain_at .later [] _ _ _ _ said (fun _ h => by cases h) (by kernel_rfl) (fun _ h => by cases h) stoneTrue_row_tie rfl ⟨rfl, rfl⟩ (by kernel_rfl) rfl plain (by kernel_rfl)
end Go.Proofs.YtpjhmbfpfbpciaaDoor.stoneTrueProof
namespace Go.Proofs.YtpjhmbfpfbpciaaDoor
theorem stoneTrue_card : Rows.StoneTrueCardSaid := stoneTrueProof.card
end Go.Proofs.YtpjhmbfpfbpciaaDoor
end

