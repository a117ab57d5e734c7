/- StoneWrong returns true for every input, and its input reads as it did: no condition. -/
import Derived.Test.YtpjhmbfpfbpciaaDoorAvMH
import Derived.Test.YtpjhmbfpfbpciaaDoorAvMK
import Derived.KernelRfl
set_option linter.all false
set_option linter.unusedSectionVars false
set_option linter.unusedVariables false
set_option linter.unusedSimpArgs false
section
/- Contracts of the reference: All, Sooner, Fewer, Wrong. -/
set_option linter.unusedSimpArgs false
set_option linter.unusedVariables false
namespace Av
open Go (IntKind BinOp UnOp)
theorem c48 (s m : Nat) (hs : s < 64) (hm : m ≤ 6) : icall pr (.fn 48 [] []) [.int .i64 s, .int .i64 m] = some (.sl (iv (outs s m)) .shut) := by
  refine icall_fn fn48 rfl (by simp) rfl (by simp) ?_
  simp [g48_macadamref00_All, g48_macadamref00_All_c]
  refine wpr_seq (wpr_oblock (loop_up pr (fun k e h => e 0 = .int .i64 s ∧ e 1 = .int .i64 m ∧ e 6 = .int .i64 k ∧ ∃ kk, e 5 = .sl (iv (outs s k)) kk ∧ Opn h kk) m ?_ ?_ 0 _ _ (by omega) ⟨rfl, rfl, rfl, .exact, rfl, trivial⟩))
  · rintro k e h hk ⟨e0, e1, e6, kk, e5, hop⟩
    have hw : IntKind.wrap .i64 ((k : Int) + 1) = k + 1 := wrap_id (by omega) (by omega)
    have hkm : (k : Int) < m := by omega
    have c1 := c87 s k hs (by omega)
    have hsu := outs_succ s k
    have hol := outs_len s k
    have ht : s.testBit k = decide (s / 2 ^ k % 2 = 1) := Nat.testBit_eq_decide_div_mod_eq
    obtain ⟨k2, h2, ha, hb2, _⟩ := app_ok (bytes := 8) (new := [.int .i64 k]) (k2 := .exact) (sz := 1) (es := iv (outs s k)) hop (by simp) (iv_cell1 _) (by simp) (by simp; omega)
    simp at ha
    rw [ht] at c1
    by_cases hq : s / 2 ^ k % 2 = 1
    · rw [if_pos hq] at hsu
      rw [decide_eq_true hq] at c1
      simp [g48_macadamref00_All_l0, e0, e1, e6, e5, hk, c1, hw, ha, hb2, hsu]
    · rw [if_neg hq, List.append_nil] at hsu
      rw [decide_eq_false hq] at c1
      simp [g48_macadamref00_All_l0, e0, e1, e6, e5, hk, c1, hw, hsu, hop]
  · rintro e h ⟨e0, e1, e6, kk, e5, hop⟩
    simp [g48_macadamref00_All_l0, e0, e1, e6, e5, onB, onN, results, rdRess, rdRes]
/-- does a list come before another one? -/
def sooner : List Int → List Int → Bool
  | x :: l, y :: m => if x = y then sooner l m else decide (x < y)
  | [], [] => false
  | [], _ :: _ => true
  | _ :: _, [] => false
def fewer (l m : List Int) : Bool := if l.length = m.length then sooner l m else decide (l.length < m.length)
theorem c88 (l m : List Int) (hl : (l.length : Int) ≤ 9223372036854775807) : icall pr (.fn 88 [] []) [.sl (iv l) .shut, .sl (iv m) .shut] = some (.bool (sooner l m)) := by
  refine icall_fn fn88 rfl (by simp) (by simp) rfl ?_
  simp [g88_macadamref00_Sooner, g88_macadamref00_Sooner_c]
  have hiv : ∀ (q : List Int) (k : Nat) (h : k < q.length), (iv q)[k]? = some (.int .i64 q[k]) := fun q k h => by rw [iv_get, List.getElem?_eq_getElem h]; rfl
  refine wpr_seq (wpr_oblock (loop_up pr (fun k e h => e 0 = .sl (iv l) .shut ∧ e 1 = .sl (iv m) .shut ∧ e 5 = .int .i64 k ∧ sooner l m = sooner (l.drop k) (m.drop k)) (min l.length m.length) ?_ ?_ 0 _ _ (by omega) ⟨rfl, rfl, rfl, rfl⟩))
  · rintro k e h hk ⟨e0, e1, e5, hs⟩
    have hkl : k < l.length := by omega
    have hkm : k < m.length := by omega
    have hw : IntKind.wrap .i64 ((k : Int) + 1) = k + 1 := wrap_id (by omega) (by omega)
    rw [List.drop_eq_getElem_cons hkl, List.drop_eq_getElem_cons hkm, sooner] at hs
    by_cases hq : l[k] = m[k]
    · rw [if_pos hq] at hs
      simp [g88_macadamref00_Sooner_l0, e0, e1, e5, hkl, hkm, hq, hw, hs]
    · rw [if_neg hq] at hs
      simp [g88_macadamref00_Sooner_l0, e0, e1, e5, hkl, hkm, hq, hw, hs, onB, onN, results, rdRess, rdRes]
  · rintro e h ⟨e0, e1, e5, hs⟩
    by_cases hq : l.length ≤ m.length
    · have hmn : min l.length m.length = l.length := by omega
      rw [hmn] at e5 hs
      rw [List.drop_length] at hs
      have hs2 : sooner l m = decide (l.length < m.length) := by
        rw [hs]
        by_cases h2 : l.length = m.length
        · rw [h2, List.drop_length]; simp [sooner]
        · have h3 : l.length < m.length := by omega
          rw [List.drop_eq_getElem_cons h3]; simp [sooner, h3]
      simp [g88_macadamref00_Sooner_l0, e0, e1, e5, hs2, onB, onN, results, rdRess, rdRes]
    · have hmn : min l.length m.length = m.length := by omega
      rw [hmn] at e5 hs
      rw [List.drop_length] at hs
      have h3 : m.length < l.length := by omega
      have hs2 : sooner l m = false := by
        rw [hs, List.drop_eq_getElem_cons h3]; rfl
      have h4 : ¬ l.length < m.length := by omega
      simp [g88_macadamref00_Sooner_l0, e0, e1, e5, hs2, h3, h4, onB, onN, results, rdRess, rdRes]
theorem c50 (l m : List Int) (hl : (l.length : Int) ≤ 9223372036854775807) : icall pr (.fn 50 [] []) [.sl (iv l) .shut, .sl (iv m) .shut] = some (.bool (fewer l m)) := by
  refine icall_fn fn50 rfl (by simp) (by simp) rfl ?_
  have c1 := c88 l m hl
  by_cases hq : l.length = m.length
  · simp [g50_macadamref00_Fewer, g50_macadamref00_Fewer_c, results, rdRess, rdRes, hq, c1, fewer]
  · have hq' : ¬ (l.length : Int) = m.length := by omega
    simp [g50_macadamref00_Fewer, g50_macadamref00_Fewer_c, results, rdRess, rdRes, hq, hq', fewer]
/-- the best so far -/
def Bk.bestTo (b : Bk) : Nat → List Int
  | 0 => outs (2 ^ b.ms.length - 1) b.ms.length
  | k + 1 => if fewer (outs k b.ms.length) (b.bestTo k) && b.can (fun j => k.testBit j) then outs k b.ms.length else b.bestTo k
def Bk.wrongR (b : Bk) : List Int × Int := if b.ok then (if b.can (fun j => (2 ^ b.ms.length - 1).testBit j) then (b.bestTo (2 ^ b.ms.length), 0) else ([], 32)) else ([], 30)
theorem cart_can (b : Bk) (bs : Nat → Bool) : 0 < (cartL b bs zeros b.ms.length).length ↔ b.can bs = true := by
  simp only [cartL, List.length_map, Bk.can, Bk.all]
  cases b.carts bs zeros b.ms.length <;> simp
theorem bestTo_len (b : Bk) (k : Nat) : (b.bestTo k).length ≤ b.ms.length := by
  induction k with
  | zero => exact outs_len _ _
  | succ k ih => simp only [Bk.bestTo]; split; exact outs_len _ _; exact ih
theorem c34 (b : Bk) (hb : b.fit) : icall pr (.fn 34 [] []) [b.v] = some (.tup [.sl (iv b.wrongR.1) .shut, .int .i64 b.wrongR.2]) := by
  refine icall_fn fn34 rfl (by simp) (by simp) (by simp) ?_
  cases hok : b.ok with
  | false => simp [g34_macadamref03_Wrong, g34_macadamref03_Wrong_c, c18 b hb, hok, results, rdRess, rdRes, Bk.wrongR]
  | true =>
    have hlen := ok_len hok
    have h32 : 2 ^ b.ms.length ≤ 32 := Nat.le_trans (Nat.pow_le_pow_right (by omega) hlen.2.2) (by decide)
    have hp : 0 < 2 ^ b.ms.length := Nat.pow_pos (by omega)
    have hsh := bin_shl b.ms.length (by omega)
    have hfull := dc58 b hok (2 ^ b.ms.length - 1) (by omega) b.ms.length 0 zeros (by omega) lok_zeros
    have hcf := cart_can b (fun j => (2 ^ b.ms.length - 1).testBit j)
    have hall := c48 (2 ^ b.ms.length - 1) b.ms.length (by omega) (by omega)
    have hcast : ((2 ^ b.ms.length - 1 : Nat) : Int) = ((2 ^ b.ms.length : Nat) : Int) - 1 := by omega
    have hw1 : IntKind.wrap .i64 (((2 ^ b.ms.length : Nat) : Int) - 1) = ((2 ^ b.ms.length : Nat) : Int) - 1 := wrap_id (by omega) (by omega)
    have hR : b.wrongR = if b.can (fun j => (2 ^ b.ms.length - 1).testBit j) then (b.bestTo (2 ^ b.ms.length), 0) else ([], 32) := by simp only [Bk.wrongR, hok, if_true]
    have hz : iv (zeros.take 0) = [] := rfl
    rw [hz] at hfull
    rw [hcast] at hfull hall
    rw [hR]
    have hstep : ∀ k : Nat, k < 2 ^ b.ms.length → icall pr (.fn 58 [] []) [b.v, .int .i64 k, .sl [] .shut] = some (.sl (lv (cartL b (fun j => k.testBit j) zeros b.ms.length)) .shut) := fun k hk => by
      have := dc58 b hok k (by omega) b.ms.length 0 zeros (by omega) lok_zeros
      rw [hz] at this; exact this
    have hbest0 : b.bestTo 0 = outs (2 ^ b.ms.length - 1) b.ms.length := rfl
    generalize hN : 2 ^ b.ms.length = N at *
    cases hc : b.can (fun j => (N - 1).testBit j) with
    | false =>
      have h0 : (cartL b (fun j => (N - 1).testBit j) zeros b.ms.length).length = 0 := by
        have : ¬ 0 < (cartL b (fun j => (N - 1).testBit j) zeros b.ms.length).length := fun h => by rw [hcf.1 h] at hc; cases hc
        omega
      generalize hQ : cartL b (fun j => (N - 1).testBit j) zeros b.ms.length = Q at *
      simp [g34_macadamref03_Wrong, g34_macadamref03_Wrong_c, c18 b hb, hok, hsh, hw1, hfull, h0, results, rdRess, rdRes]
    | true =>
      have h0 : ¬ (cartL b (fun j => (N - 1).testBit j) zeros b.ms.length).length = 0 := by
        have := hcf.2 hc; omega
      generalize hQ : cartL b (fun j => (N - 1).testBit j) zeros b.ms.length = Q at *
      have h0' : ¬ Q = [] := fun h => h0 (by rw [h]; rfl)
      simp [g34_macadamref03_Wrong, g34_macadamref03_Wrong_c, c18 b hb, hok, hsh, hw1, hfull, hall, h0, h0']
      refine wpr_seq (wpr_oblock (loop_up pr (fun k e h => e 1 = b.bx ∧ e 5 = .int .i64 b.ms.length ∧ e 7 = .int .i64 k ∧ ∃ kk, e 6 = .sl (iv (b.bestTo k)) kk) N ?_ ?_ 0 _ _ (by omega) ⟨rfl, rfl, rfl, .shut, by simp [hbest0]⟩))
      · rintro k e h hk ⟨e1, e5, e7, kk, e6⟩
        have hw : IntKind.wrap .i64 ((k : Int) + 1) = k + 1 := wrap_id (by omega) (by omega)
        have hkN : (k : Int) < N := by omega
        have c1 := c48 k b.ms.length (by omega) (by omega)
        have hol := outs_len k b.ms.length
        have c2 := c50 (outs k b.ms.length) (b.bestTo k) (by omega)
        have c3 := hstep k hk
        have hcc := cart_can b (fun j => k.testBit j)
        have hbs : b.bestTo (k + 1) = if fewer (outs k b.ms.length) (b.bestTo k) && b.can (fun j => k.testBit j) then outs k b.ms.length else b.bestTo k := rfl
        rw [hbs]
        generalize outs k b.ms.length = O at *
        generalize b.bestTo k = B at *
        generalize cartL b (fun j => k.testBit j) zeros b.ms.length = D at *
        cases hf : fewer O B with
        | false =>
          rw [hf] at c2
          simp [g34_macadamref03_Wrong_l0, e1, e5, e7, e6, hsh, hkN, hk, c1, c2, hw]
        | true =>
          rw [hf] at c2
          cases hcn : b.can (fun j => k.testBit j) with
          | true =>
            have h1 : 0 < D.length := hcc.2 hcn
            simp [g34_macadamref03_Wrong_l0, e1, e5, e7, e6, hsh, hkN, hk, c1, c2, c3, hw, h1]
          | false =>
            have h1 : ¬ 0 < D.length := fun h => by rw [hcc.1 h] at hcn; cases hcn
            have h2 : D = [] := List.length_eq_zero_iff.1 (by omega)
            simp [g34_macadamref03_Wrong_l0, e1, e5, e7, e6, hsh, hkN, hk, c1, c2, c3, hw, h2]
      · rintro e h ⟨e1, e5, e7, kk, e6⟩
        simp [g34_macadamref03_Wrong_l0, e5, e7, e6, hsh, onB, onN, results, rdRess, rdRes]
end Av
end

section
/- The tallies that must be false: program and reference choose the same. -/
set_option linter.unusedSimpArgs false
set_option linter.unusedVariables false
namespace Av
theorem tr_mono {b : Bk} {bs bs' : Nat → Bool} (h : ∀ k, k < b.ms.length → bs k = true → bs' k = true) {l : List Int} (hl : Tr b bs l) : Tr b bs' l := by
  refine ⟨hl.lok, hl.nil, fun j hj => ?_, hl.fits⟩
  have hm : b.ms[j]? = some b.ms[j] := List.getElem?_eq_getElem hj
  exact (right_iff hm).2 (((right_iff hm).1 (hl.right j hj)).imp (h j hj) id)
theorem can_mono {b : Bk} (hok : b.ok = true) {bs bs' : Nat → Bool} (h : ∀ k, k < b.ms.length → bs k = true → bs' k = true) (hc : b.can bs = true) : b.can bs' = true := by
  obtain ⟨l, hl⟩ := (can_iff hok).1 hc
  exact (can_iff hok).2 ⟨l, tr_mono h hl⟩
theorem can_congr {b : Bk} (hok : b.ok = true) {bs bs' : Nat → Bool} (h : ∀ k, k < b.ms.length → bs k = bs' k) : b.can bs = b.can bs' := by
  rw [Bool.eq_iff_iff]
  exact ⟨can_mono hok fun k hk h1 => by rw [← h k hk]; exact h1, can_mono hok fun k hk h1 => by rw [h k hk]; exact h1⟩
theorem find_range {β : Type} (g : Nat → Option β) (N : Nat) (W : β) (h : (List.range N).findSome? g = some W) : ∃ n, n < N ∧ g n = some W ∧ ∀ j, j < n → g j = none := by
  induction N with
  | zero => simp at h
  | succ N ih =>
    cases hN : (List.range N).findSome? g with
    | some V =>
      rw [findSome_pre g N (N + 1) V (by omega) hN] at h
      cases h
      obtain ⟨n, h1, h2, h3⟩ := ih hN
      exact ⟨n, by omega, h2, h3⟩
    | none =>
      rw [findSome_succ g N hN] at h
      rw [List.findSome?_eq_none_iff] at hN
      exact ⟨N, by omega, h, fun j hj => hN j (List.mem_range.2 hj)⟩
theorem from_app (l : List Int) (n : Int) : fromI (l ++ [n]) = n + 1 := by
  cases l with
  | nil => simp [fromI]
  | cons x t => simp [fromI]
theorem choose_spec (b : Bk) : ∀ (d : Nat) (l : List Int), 0 ≤ fromI l →
    (∀ W, b.choose d l = some W → ∃ suf, W = l ++ suf ∧ suf.length = d ∧ rising b.ms.length (fromI l - 1) suf = true ∧ b.can (inL W) = true ∧
      ∀ s', s'.length = d → rising b.ms.length (fromI l - 1) s' = true → b.can (inL (l ++ s')) = true → sooner s' suf = false) ∧
    (b.choose d l = none → ∀ s', s'.length = d → rising b.ms.length (fromI l - 1) s' = true → b.can (inL (l ++ s')) = false) := by
  intro d
  induction d with
  | zero =>
    intro l h0
    constructor
    · intro W hW
      simp only [Bk.choose] at hW
      split at hW
      · cases hW
        rename_i hc
        exact ⟨[], by simp, rfl, rfl, hc, fun s' hs _ _ => by rw [List.length_eq_zero_iff.1 hs]; rfl⟩
      · cases hW
    · intro hN s' hs _
      simp only [Bk.choose] at hN
      split at hN
      · cases hN
      · rename_i hc
        rw [List.length_eq_zero_iff.1 hs, List.append_nil]
        simpa using hc
  | succ d ih =>
    intro l h0
    have hex : ∀ s', s'.length = d + 1 → rising b.ms.length (fromI l - 1) s' = true → ∃ (n : Nat) (t : List Int), s' = (n : Int) :: t ∧ t.length = d ∧ n < b.ms.length ∧ fromI l ≤ n ∧ rising b.ms.length n t = true := by
      intro s' hs hr
      cases s' with
      | nil => simp at hs
      | cons x t =>
        simp only [rising, Bool.and_eq_true, decide_eq_true_eq] at hr
        obtain ⟨n, rfl⟩ := Int.eq_ofNat_of_zero_le (show 0 ≤ x by omega)
        exact ⟨n, t, rfl, by simpa using hs, by omega, by omega, hr.2⟩
    have hfr : ∀ n : Nat, fromI (l ++ [(n : Int)]) - 1 = n := fun n => by rw [from_app]; omega
    constructor
    · intro W hW
      obtain ⟨n, hn, hg, hb⟩ := find_range _ _ _ hW
      split at hg
      · rename_i hfn
        obtain ⟨suf, h1, h2, h3, h4, h5⟩ := (ih (l ++ [(n : Int)]) (by rw [from_app]; omega)).1 W hg
        rw [hfr] at h3 h5
        refine ⟨(n : Int) :: suf, by simp [h1], by simp [h2], ?_, h4, fun s' hs hr hc => ?_⟩
        · simp only [rising, h3, Bool.and_true, decide_eq_true_eq]; omega
        · obtain ⟨n', t, rfl, ht, hn', hf', hr'⟩ := hex s' hs hr
          have e1 : l ++ (n' : Int) :: t = l ++ [(n' : Int)] ++ t := by simp
          simp only [sooner]
          by_cases hq : n' = n
          · subst hq
            rw [if_pos rfl]
            exact h5 t ht hr' (by rw [← e1]; exact hc)
          · rw [if_neg (by omega)]
            by_cases hlt : n' < n
            · have hnone := hb n' hlt
              simp only [hf', if_true] at hnone
              have := (ih (l ++ [(n' : Int)]) (by rw [from_app]; omega)).2 hnone t ht (by rw [hfr]; exact hr')
              rw [e1, this] at hc; cases hc
            · exact decide_eq_false (by omega)
      · cases hg
    · intro hN s' hs hr
      obtain ⟨n', t, rfl, ht, hn', hf', hr'⟩ := hex s' hs hr
      have e1 : l ++ (n' : Int) :: t = l ++ [(n' : Int)] ++ t := by simp
      simp only [Bk.choose] at hN
      rw [List.findSome?_eq_none_iff] at hN
      have hnone := hN n' (List.mem_range.2 hn')
      simp only [hf', if_true] at hnone
      have := (ih (l ++ [(n' : Int)]) (by rw [from_app]; omega)).2 hnone t ht (by rw [hfr]; exact hr')
      rw [e1]; exact this

theorem rising_iff (below : Int) (L : List Int) : ∀ last, rising below last L = true ↔ L.Pairwise (· < ·) ∧ ∀ x ∈ L, last < x ∧ x < below := by
  induction L with
  | nil => intro last; simp [rising]
  | cons x l ih =>
    intro last
    simp only [rising, Bool.and_eq_true, decide_eq_true_eq, ih, List.pairwise_cons, List.mem_cons, forall_eq_or_imp]
    constructor
    · rintro ⟨h1, h2, h3⟩
      exact ⟨⟨fun y hy => (h3 y hy).1, h2⟩, h1, fun y hy => ⟨by have := (h3 y hy).1; omega, (h3 y hy).2⟩⟩
    · rintro ⟨⟨h1, h2⟩, h3, h4⟩
      exact ⟨h3, h2, fun y hy => ⟨h1 y hy, (h4 y hy).2⟩⟩
theorem sorted_ext : ∀ (l m : List Int), l.Pairwise (· < ·) → m.Pairwise (· < ·) → (∀ x, x ∈ l ↔ x ∈ m) → l = m := by
  intro l
  induction l with
  | nil =>
    intro m _ _ h
    cases m with
    | nil => rfl
    | cons y m => exact absurd ((h y).2 (by simp)) (by simp)
  | cons x l ih =>
    intro m h1 h2 h
    cases m with
    | nil => exact absurd ((h x).1 (by simp)) (by simp)
    | cons y m =>
      rw [List.pairwise_cons] at h1 h2
      have hxy : x = y := by
        have hx := (h x).1 (by simp)
        have hy := (h y).2 (by simp)
        rcases List.mem_cons.1 hx with rfl | hx
        · rfl
        · rcases List.mem_cons.1 hy with rfl | hy
          · rfl
          · have := h2.1 x hx
            have := h1.1 y hy
            omega
      subst hxy
      congr 1
      refine ih m h1.2 h2.2 fun z => ?_
      constructor
      · intro hz
        rcases List.mem_cons.1 ((h z).1 (by simp [hz])) with rfl | h3
        · exact absurd (h1.1 z hz) (by omega)
        · exact h3
      · intro hz
        rcases List.mem_cons.1 ((h z).2 (by simp [hz])) with rfl | h3
        · exact absurd (h2.1 z hz) (by omega)
        · exact h3
theorem outs_sorted (s k : Nat) : (outs s k).Pairwise (· < ·) := by
  unfold outs
  refine List.Pairwise.map _ (fun a b h => by simpa using h) ?_
  exact List.Pairwise.filter _ List.pairwise_lt_range
theorem outs_rise (s k : Nat) : rising k (-1) (outs s k) = true := by
  rw [rising_iff]
  refine ⟨outs_sorted s k, fun x hx => ?_⟩
  obtain ⟨c, h1, rfl, _⟩ := (outs_mem s k x).1 hx
  omega
theorem outs_in {s k j : Nat} (hj : j < k) : inL (outs s k) j = s.testBit j := by
  rw [Bool.eq_iff_iff]
  simp only [inL, decide_eq_true_eq, outs_mem]
  constructor
  · rintro ⟨c, _, h2, h3⟩
    have : c = j := by omega
    subst this; exact h3
  · intro h; exact ⟨j, hj, rfl, h⟩
theorem setTo_bit (l : List Int) (k c : Nat) : (setTo l k).testBit c = true ↔ ∃ j, j < k ∧ (l.getD j 0).toNat = c := by
  induction k with
  | zero => simp [setTo]
  | succ k ih =>
    simp only [setTo, Nat.testBit_or, Bool.or_eq_true, ih, Nat.testBit_two_pow, decide_eq_true_eq]
    constructor
    · rintro (⟨j, h1, h2⟩ | h)
      · exact ⟨j, by omega, h2⟩
      · exact ⟨k, by omega, h⟩
    · rintro ⟨j, h1, h2⟩
      by_cases hq : j = k
      · subst hq; exact .inr h2
      · exact .inl ⟨j, by omega, h2⟩
theorem setTo_lt2 (l : List Int) (m k : Nat) (h : ∀ j, j < k → (l.getD j 0).toNat < m) : setTo l k < 2 ^ m := by
  induction k with
  | zero => exact Nat.pow_pos (by omega)
  | succ k ih => exact Nat.or_lt_two_pow (ih fun j hj => h j (by omega)) (Nat.pow_lt_pow_right (by omega) (h k (by omega)))
/-- a rising list is a set's -/
theorem outs_of {L : List Int} {m : Nat} (h : rising m (-1) L = true) : ∃ s, s < 2 ^ m ∧ outs s m = L := by
  rw [rising_iff] at h
  have hg : ∀ j, j < L.length → L.getD j 0 ∈ L := fun j hj => by
    rw [List.getD_eq_getElem?_getD, List.getElem?_eq_getElem hj]; exact List.getElem_mem _
  refine ⟨setTo L L.length, setTo_lt2 L m _ (fun j hj => by have := h.2 _ (hg j hj); omega), ?_⟩
  refine sorted_ext _ _ (outs_sorted _ _) h.1 fun x => ?_
  rw [outs_mem]
  constructor
  · rintro ⟨c, h1, rfl, h3⟩
    obtain ⟨j, h4, h5⟩ := (setTo_bit L _ c).1 h3
    have := h.2 _ (hg j h4)
    have e : L.getD j 0 = (c : Int) := by omega
    rw [← e]; exact hg j h4
  · intro hx
    have := h.2 x hx
    obtain ⟨j, hj, hjx⟩ := List.mem_iff_getElem.1 hx
    refine ⟨x.toNat, by omega, by omega, (setTo_bit L _ _).2 ⟨j, hj, ?_⟩⟩
    rw [List.getD_eq_getElem?_getD, List.getElem?_eq_getElem hj, hjx]; rfl

theorem sooner_trans : ∀ (A B C : List Int), sooner A B = true → sooner B C = true → sooner A C = true := by
  intro A
  induction A with
  | nil =>
    intro B C h1 h2
    cases B with
    | nil => exact absurd h1 (by simp [sooner])
    | cons y B => cases C with
      | nil => exact absurd h2 (by simp [sooner])
      | cons z C => rfl
  | cons x A ih =>
    intro B C h1 h2
    cases B with
    | nil => exact absurd h1 (by simp [sooner])
    | cons y B => cases C with
      | nil => exact absurd h2 (by simp [sooner])
      | cons z C =>
        simp only [sooner] at h1 h2 ⊢
        by_cases e1 : x = y
        · subst e1
          rw [if_pos rfl] at h1
          by_cases e2 : x = z
          · subst e2
            rw [if_pos rfl] at h2 ⊢
            exact ih B C h1 h2
          · rw [if_neg e2] at h2 ⊢; exact h2
        · rw [if_neg e1] at h1
          by_cases e2 : y = z
          · subst e2; rw [if_neg e1]; exact h1
          · rw [if_neg e2] at h2
            simp only [decide_eq_true_eq] at h1 h2
            rw [if_neg (by omega), decide_eq_true (by omega)]
theorem sooner_total : ∀ (A B : List Int), sooner A B = false → sooner B A = false → A = B := by
  intro A
  induction A with
  | nil => intro B h1 h2; cases B with
    | nil => rfl
    | cons y B => exact absurd h1 (by simp [sooner])
  | cons x A ih => intro B h1 h2; cases B with
    | nil => exact absurd h2 (by simp [sooner])
    | cons y B =>
      simp only [sooner] at h1 h2
      by_cases e : x = y
      · subst e
        rw [if_pos rfl] at h1 h2
        rw [ih B h1 h2]
      · rw [if_neg e] at h1
        rw [if_neg (fun h => e h.symm)] at h2
        simp only [decide_eq_false_iff_not] at h1 h2
        omega
theorem fewer_trans {A B C : List Int} (h1 : fewer A B = true) (h2 : fewer B C = true) : fewer A C = true := by
  simp only [fewer] at h1 h2 ⊢
  by_cases e1 : A.length = B.length
  · rw [if_pos e1] at h1
    by_cases e2 : B.length = C.length
    · rw [if_pos e2] at h2
      rw [if_pos (e1.trans e2)]; exact sooner_trans A B C h1 h2
    · rw [if_neg e2] at h2
      rw [if_neg (by omega)]
      simp only [decide_eq_true_eq] at h2 ⊢; omega
  · rw [if_neg e1] at h1
    simp only [decide_eq_true_eq] at h1
    by_cases e2 : B.length = C.length
    · rw [if_neg (by omega), decide_eq_true (by omega)]
    · rw [if_neg e2] at h2
      simp only [decide_eq_true_eq] at h2
      rw [if_neg (by omega), decide_eq_true (by omega)]
theorem fewer_total {A B : List Int} (h1 : fewer A B = false) (h2 : fewer B A = false) : A = B := by
  simp only [fewer] at h1 h2
  by_cases e : A.length = B.length
  · rw [if_pos e] at h1
    rw [if_pos e.symm] at h2
    exact sooner_total A B h1 h2
  · rw [if_neg e] at h1
    rw [if_neg (fun h => e h.symm)] at h2
    simp only [decide_eq_false_iff_not] at h1 h2
    omega
theorem fewer_irrefl (A : List Int) : fewer A A = false := by
  have : ∀ A : List Int, sooner A A = false := by
    intro A
    induction A with
    | nil => rfl
    | cons x A ih => simp [sooner, ih]
  simp [fewer, this]
/-- what the reference keeps -/
theorem best_spec {b : Bk} (hok : b.ok = true) (hc : b.can (fun j => (2 ^ b.ms.length - 1).testBit j) = true) : ∀ k,
    rising b.ms.length (-1) (b.bestTo k) = true ∧ b.can (inL (b.bestTo k)) = true ∧ ∀ s, s < k → b.can (fun j => s.testBit j) = true → fewer (outs s b.ms.length) (b.bestTo k) = false := by
  intro k
  induction k with
  | zero => exact ⟨outs_rise _ _, by rw [← hc]; exact can_congr hok fun j hj => outs_in hj, by omega⟩
  | succ k ih =>
    obtain ⟨i1, i2, i3⟩ := ih
    simp only [Bk.bestTo]
    split
    · rename_i hq
      simp only [Bool.and_eq_true] at hq
      refine ⟨outs_rise _ _, by rw [← hq.2]; exact can_congr hok fun j hj => outs_in hj, fun s hs hcs => ?_⟩
      by_cases hk : s = k
      · subst hk; exact fewer_irrefl _
      · rw [← Bool.not_eq_true]
        intro h
        have := fewer_trans h hq.1
        rw [i3 s (by omega) hcs] at this; cases this
    · rename_i hq
      refine ⟨i1, i2, fun s hs hcs => ?_⟩
      by_cases hk : s = k
      · subst hk
        rw [hcs, Bool.and_true] at hq
        simpa using hq
      · exact i3 s (by omega) hcs
/-- what the program chooses -/
theorem wrong_spec {b : Bk} (hok : b.ok = true) {W : List Int} (h : b.wrongO = some W) :
    rising b.ms.length (-1) W = true ∧ b.can (inL W) = true ∧ W.length ≤ b.ms.length ∧ ∀ L, rising b.ms.length (-1) L = true → b.can (inL L) = true → L.length ≤ b.ms.length → fewer L W = false := by
  obtain ⟨d, hd, hg, hb⟩ := find_range _ _ _ h
  obtain ⟨suf, h1, h2, h3, h4, h5⟩ := (choose_spec b d [] (by simp [fromI])).1 W hg
  simp only [List.nil_append] at h1
  subst h1
  simp only [fromI, Int.zero_sub] at h3 h5
  refine ⟨h3, h4, by omega, fun L hr hc hl => ?_⟩
  simp only [fewer]
  by_cases e : L.length = W.length
  · rw [if_pos e]
    exact h5 L (by omega) hr (by simpa using hc)
  · rw [if_neg e]
    rw [decide_eq_false_iff_not]
    intro hlt
    have := (choose_spec b L.length [] (by simp [fromI])).2 (hb L.length (by omega)) L rfl (by simpa [fromI] using hr)
    rw [List.nil_append, hc] at this; cases this
theorem rise_len {m : Nat} {L : List Int} (h : rising m (-1) L = true) : L.length ≤ m := by
  obtain ⟨s, _, rfl⟩ := outs_of h
  exact outs_len _ _
theorem wrong_none {b : Bk} (hok : b.ok = true) (h : b.wrongO = none) (L : List Int) (hr : rising b.ms.length (-1) L = true) : b.can (inL L) = false := by
  simp only [Bk.wrongO] at h
  rw [List.findSome?_eq_none_iff] at h
  have hl := rise_len hr
  have := (choose_spec b L.length [] (by simp [fromI])).2 (h L.length (List.mem_range.2 (by omega))) L rfl (by simpa [fromI] using hr)
  simpa using this
theorem wrong_eq (b : Bk) : b.wrong = b.wrongR := by
  simp only [Bk.wrong, Bk.wrongR]
  cases hok : b.ok with
  | false => rfl
  | true =>
    simp only [if_true]
    cases hW : b.wrongO with
    | none =>
      have hf := wrong_none hok hW (outs (2 ^ b.ms.length - 1) b.ms.length) (outs_rise _ _)
      rw [can_congr hok (bs' := fun j => (2 ^ b.ms.length - 1).testBit j) fun j hj => outs_in hj] at hf
      rw [hf]; rfl
    | some W =>
      obtain ⟨w1, w2, w3, w4⟩ := wrong_spec hok hW
      have hfull : b.can (fun j => (2 ^ b.ms.length - 1).testBit j) = true := can_mono hok (fun k hk _ => by
        rw [Nat.testBit_two_pow_sub_one]; exact decide_eq_true hk) w2
      rw [hfull]
      simp only [if_true]
      obtain ⟨b1, b2, b3⟩ := best_spec hok hfull (2 ^ b.ms.length)
      congr 1
      refine fewer_total ?_ (w4 _ b1 b2 (rise_len b1))
      obtain ⟨s, hs, hsW⟩ := outs_of w1
      have := b3 s hs (by
        rw [← w2, ← hsW]
        exact (can_congr hok fun j hj => outs_in hj).symm)
      rw [hsW] at this; exact this
end Av
end

section
/- A book in which a load was told otherwise; rows as cells of memory. -/
set_option linter.unusedSimpArgs false
set_option linter.unusedVariables false
namespace Av
open Go (IntKind BinOp UnOp)
def Mv.told (m : Mv) (n : Int) : Mv := ⟨m.f, m.t, m.c, n⟩
def toldAt : List Mv → Nat → Int → List Mv
  | [], _, _ => []
  | m :: ms, 0, n => m.told n :: ms
  | m :: ms, k + 1, n => m :: toldAt ms k n
theorem told_len (ms : List Mv) (k n) : (toldAt ms k n).length = ms.length := by
  induction ms generalizing k with
  | nil => rfl
  | cons m ms ih => cases k <;> simp [toldAt, ih]
theorem told_get (ms : List Mv) (k n) (j : Nat) : (toldAt ms k n)[j]? = if j = k then (ms[j]?).map (·.told n) else ms[j]? := by
  induction ms generalizing k j with
  | nil => simp [toldAt]
  | cons m ms ih =>
    cases k with
    | zero => cases j <;> simp [toldAt]
    | succ k => cases j <;> simp [toldAt, ih]
def Bk.told (b : Bk) (k : Nat) (n : Int) : Bk := ⟨b.hs, toldAt b.ms k n, b.l0, b.l1, b.l2, b.l3⟩
theorem told_ok {b : Bk} (h : b.ok = true) (k : Nat) {n : Int} (hn : 0 ≤ n ∧ n ≤ 6) : (b.told k n).ok = true := by
  simp only [Bk.ok, Bool.and_eq_true] at h
  simp only [Bk.ok, Bool.and_eq_true, Bk.told, told_len]
  refine ⟨⟨h.1.1, ?_⟩, h.2⟩
  have h2 := List.all_eq_true.1 h.1.2
  rw [List.all_eq_true]
  intro m hm
  obtain ⟨j, hj⟩ := List.mem_iff_getElem?.1 hm
  rw [told_get] at hj
  split at hj
  · obtain ⟨m0, h0, rfl⟩ := Option.map_eq_some_iff.1 hj
    have := h2 m0 (List.mem_of_getElem? h0)
    simp only [Mv.ok, Bool.and_eq_true, decide_eq_true_eq] at this
    show (isEnd b.hs.length m0.f && isEnd b.hs.length m0.t && decide (m0.f ≠ m0.t ∧ (0 ≤ m0.c ∧ m0.c ≤ 3) ∧ 0 ≤ n ∧ n ≤ 6)) = true
    simp only [Bool.and_eq_true, decide_eq_true_eq]
    exact ⟨this.1, this.2.1, this.2.2.1, hn⟩
  · exact h2 m (List.mem_of_getElem? hj)
/-- as cells -/
def mc (ms : List Mv) : List Int := ms.flatMap fun m => [m.f, m.t, m.c, m.n]
theorem mc_len (ms : List Mv) : (mc ms).length = ms.length * 4 := by
  induction ms with
  | nil => rfl
  | cons m ms ih => simp only [mc, List.flatMap_cons, List.length_append, List.length_cons, List.length_nil] at ih ⊢; omega
theorem mvs_cells (ms : List Mv) : (mvs ms).flatMap AV.cells = iv (mc ms) := by
  induction ms with
  | nil => rfl
  | cons m ms ih =>
    have : mvs (m :: ms) = m.v :: mvs ms := rfl
    rw [this, List.flatMap_cons, ih]; rfl
theorem chunk_mc (ms : List Mv) : chunk 4 ms.length (iv (mc ms)) = mvs ms := by
  induction ms with
  | nil => rfl
  | cons m ms ih =>
    have : iv (mc (m :: ms)) = .int .i64 m.f :: .int .i64 m.t :: .int .i64 m.c :: .int .i64 m.n :: iv (mc ms) := rfl
    rw [this]
    simp only [List.length_cons, chunk]
    rw [if_neg (by omega)]
    simp only [List.take_succ_cons, List.take_zero, List.drop_succ_cons, List.drop_zero, ih]
    rfl
theorem mc_set (ms : List Mv) (k : Nat) (n : Int) (h : k < ms.length) : (mc ms).set (k * 4 + 3) n = mc (toldAt ms k n) := by
  induction ms generalizing k with
  | nil => simp at h
  | cons m ms ih =>
    cases k with
    | zero => rfl
    | succ k =>
      have h1 : mc (m :: ms) = m.f :: m.t :: m.c :: m.n :: mc ms := rfl
      rw [h1, show (k + 1) * 4 + 3 = k * 4 + 3 + 1 + 1 + 1 + 1 by omega]
      simp only [List.set_cons_succ, ih k (by simpa using h)]
      rfl
theorem mvs_cell4 (ms : List Mv) : (mvs ms).all (fun v => decide (v.cells.length = 4) && v.flats) = true := by
  induction ms with
  | nil => rfl
  | cons m ms ih => simp [mvs, AV.flats]
/-! heaps -/
def hc (hs : List Hp) : List Int := hs.flatMap fun x => [x.a, x.b, x.c, x.d]
theorem hc_len (hs : List Hp) : (hc hs).length = hs.length * 4 := by
  induction hs with
  | nil => rfl
  | cons m ms ih => simp only [hc, List.flatMap_cons, List.length_append, List.length_cons, List.length_nil] at ih ⊢; omega
theorem hvs_cells (hs : List Hp) : (hvs hs).flatMap AV.cells = iv (hc hs) := by
  induction hs with
  | nil => rfl
  | cons m ms ih =>
    have : hvs (m :: ms) = m.v :: hvs ms := rfl
    rw [this, List.flatMap_cons, ih]; rfl
theorem chunk_hc (hs : List Hp) : chunk 4 hs.length (iv (hc hs)) = hvs hs := by
  induction hs with
  | nil => rfl
  | cons m ms ih =>
    have : iv (hc (m :: ms)) = .int .i64 m.a :: .int .i64 m.b :: .int .i64 m.c :: .int .i64 m.d :: iv (hc ms) := rfl
    rw [this]
    simp only [List.length_cons, chunk]
    rw [if_neg (by omega)]
    simp only [List.take_succ_cons, List.take_zero, List.drop_succ_cons, List.drop_zero, ih]
    rfl
theorem hvs_cell4 (hs : List Hp) : (hvs hs).all (fun v => decide (v.cells.length = 4) && v.flats) = true := by
  induction hs with
  | nil => rfl
  | cons m ms ih => simp [hvs, AV.flats]
end Av
end

section
/- Contracts: Pick, From, freed, mends. -/
set_option linter.unusedSimpArgs false
set_option linter.unusedVariables false
namespace Av
open Go (IntKind BinOp UnOp)
theorem c38b (n m : Int) (hm : m ≤ 9223372036854775807) : icall pr (.fn 38 [] []) [.int .i64 n, .int .i64 m] = some (.int .i64 (wrapI n m)) := by
  refine icall_fn fn38 rfl rfl rfl rfl ?_
  by_cases h1 : m ≤ 0
  · simp [g38_macadamref00_Wrap, g38_macadamref00_Wrap_c, results, rdRess, rdRes, h1, wrapI]
  · have h0 : m ≠ 0 := by omega
    have h2 : n.tmod m < m := Int.tmod_lt_of_pos n (by omega)
    have h3 : -m < n.tmod m := by have := Int.lt_tmod_of_pos n (show 0 < m by omega); omega
    have ht := tmod_wrap n m (by omega)
    have hW : wrapI n m = n % m := by rw [wrapI, if_neg h1]
    rw [hW, ← ht]
    by_cases h4 : n.tmod m < 0
    · have hw : IntKind.wrap .i64 (n.tmod m + m) = n.tmod m + m := wrap_id (by omega) (by omega)
      simp [g38_macadamref00_Wrap, g38_macadamref00_Wrap_c, results, rdRess, rdRes, h1, h0, h4, hw]
    · simp [g38_macadamref00_Wrap, g38_macadamref00_Wrap_c, results, rdRess, rdRes, h1, h0, h4]
def pickI (l : List Int) (n : Int) : Int := if l.length = 0 then 0 else l.getD (wrapI n l.length).toNat 0
theorem c86 (l : List Int) (hl : (l.length : Int) ≤ 9223372036854775807) (n : Int) : icall pr (.fn 86 [] []) [.sl (iv l) .shut, .int .i64 n] = some (.int .i64 (pickI l n)) := by
  refine icall_fn fn86 rfl rfl (by simp) rfl ?_
  have c1 := c38b n l.length hl
  cases hq : l.length with
  | zero =>
    have hq' : (l.length : Int) = 0 := by omega
    simp [g86_macadamref00_Pick, g86_macadamref00_Pick_c, results, rdRess, rdRes, hq, hq', pickI]
  | succ m =>
    have hq' : ¬ (l.length : Int) = 0 := by omega
    have w1 := wrapI_bd n (m := (l.length : Int)) (by omega)
    obtain ⟨k, hk⟩ := toInt w1.1
    rw [hk] at w1 c1
    have hk' : k < l.length := by omega
    have hne : l ≠ [] := by rintro rfl; simp at hq
    have hP : pickI l n = l[k] := by
      rw [pickI, if_neg (by omega), hk]
      simp [hk']
    rw [hP]
    simp [g86_macadamref00_Pick, g86_macadamref00_Pick_c, results, rdRess, rdRes, hne, c1, hk']
/-- what is told instead -/
def Bk.freed (b : Bk) (l : List Int) (f : Nat → Int) : Nat → Bk
  | 0 => b
  | k + 1 => (b.freed l f k).told (l.getD k 0).toNat (f k)
theorem freed_hs (b : Bk) (l f k) : (b.freed l f k).hs = b.hs := by
  induction k with
  | zero => rfl
  | succ k ih => exact ih
theorem freed_lies (b : Bk) (l f k) : (b.freed l f k).l0 = b.l0 ∧ (b.freed l f k).l1 = b.l1 ∧ (b.freed l f k).l2 = b.l2 ∧ (b.freed l f k).l3 = b.l3 := by
  induction k with
  | zero => exact ⟨rfl, rfl, rfl, rfl⟩
  | succ k ih => exact ih
theorem freed_ms (b : Bk) (l f k) : (b.freed l f k).ms.length = b.ms.length := by
  induction k with
  | zero => rfl
  | succ k ih => exact (told_len _ _ _).trans ih
theorem c49 (b : Bk) (hb : b.fit) (hm : b.ms.length ≤ 1000) (l bits : List Int) (hl : ∀ x ∈ l, 0 ≤ x ∧ x < b.ms.length) (hll : (l.length : Int) ≤ 9223372036854775807) (hbl : (bits.length : Int) ≤ 9223372036854775807) :
    icall pr (.fn 49 [] []) [b.v, .sl (iv l) .shut, .sl (iv bits) .shut] = some (b.freed l (fun k => wrapI (pickI bits k) 7) l.length).v := by
  refine icall_fn fn49 rfl rfl (by simp) (by simp) ?_
  generalize hf : (fun k : Nat => wrapI (pickI bits k) 7) = f
  have hfk : ∀ k : Nat, wrapI (pickI bits k) 7 = f k := fun k => by rw [← hf]
  cases hms : b.ms with
  | nil =>
    have hl0 : l = [] := by
      cases l with
      | nil => rfl
      | cons x l => have := hl x (by simp); simp [hms] at this; omega
    subst hl0
    have hi : iv [] = [] := rfl
    have hmv : mvs [] = [] := rfl
    have := appM_nil H.emp 4 32 .shut
    simp [g49_macadamlaw03_freed, g49_macadamlaw03_freed_c, hms, hmv, this]
    simp [r_loop, g49_macadamlaw03_freed_l0, results, rdRess, rdRes, Bk.freed, hms, hmv, oblock]
  | cons m0 ms0 =>
  have hm0 : b.ms.length ≠ 0 := by rw [hms]; simp
  have ha := appM_new (h := H.emp) (sz := 4) (bytes := 32) (new := mvs b.ms) (k2 := .shut) (by simpa using hm0) (mvs_cell4 _) (by simp; omega)
  simp only [mvs_cells, mvs_len, emp_n] at ha
  have hcm := chunk_mc
  simp [g49_macadamlaw03_freed, g49_macadamlaw03_freed_c, ha]
  refine wpr_seq (wpr_oblock (loop_up pr (fun k e h => e 1 = .sl (iv l) .shut ∧ e 2 = .sl (iv bits) .shut ∧ e 8 = .int .i64 k ∧ e 6 = .lbox 0 [.sl [] .exact, .sl [] .exact, .int .i64 0, .int .i64 0, .int .i64 0, .int .i64 0] ∧
      e 7 = .lbox 0 [.sl (hvs b.hs) .shut, .msl 0 0 b.ms.length 4, .int .i64 b.l0, .int .i64 b.l1, .int .i64 b.l2, .int .i64 b.l3] ∧ h.get 0 = some (.cells (iv (mc (b.freed l f k).ms)))) l.length ?_ ?_ 0 _ _ (by omega) ⟨rfl, rfl, rfl, rfl, rfl, rfl⟩))
  · rintro k e h hk ⟨e1, e2, e8, e6, e7, hh⟩
    have hw : IntKind.wrap .i64 ((k : Int) + 1) = k + 1 := wrap_id (by omega) (by omega)
    have c1 := c86 bits hbl k
    have c2 := c38 (pickI bits k) 7 (by omega)
    rw [hfk] at c2
    have hx := hl l[k] (List.getElem_mem hk)
    obtain ⟨x, hx2⟩ := toInt hx.1
    rw [hx2] at hx
    have hxl : x < b.ms.length := by omega
    have hfm := freed_ms b l f k
    have hlen : (mc (b.freed l f k).ms).length = b.ms.length * 4 := by rw [mc_len, hfm]
    have hset := mc_set (b.freed l f k).ms x (f k) (by omega)
    have hsp := splice_iv1 (l := mc (b.freed l f k).ms) (k := x * 4 + 3) (f k) (by omega)
    rw [hset] at hsp
    have hfr : (b.freed l f (k + 1)).ms = toldAt (b.freed l f k).ms x (f k) := by
      simp only [Bk.freed, Bk.told]
      rw [List.getD_eq_getElem?_getD, List.getElem?_eq_getElem hk]
      simp [hx2]
    have hle : x * 4 + 3 + 1 ≤ b.ms.length * 4 := by omega
    simp [g49_macadamlaw03_freed_l0, e1, e2, e6, e7, e8, hk, hw, c1, c2, hx2, hxl, hh, hlen, hle, hsp, hfr]
  · rintro e h ⟨e1, e2, e8, e6, e7, hh⟩
    have hfm := freed_ms b l f l.length
    have hl2 := freed_lies b l f l.length
    have hl3 := freed_hs b l f l.length
    have hcc := chunk_mc (b.freed l f l.length).ms
    rw [hfm] at hcc
    have hlen : (mc (b.freed l f l.length).ms).length = b.ms.length * 4 := by rw [mc_len, hfm]
    simp [g49_macadamlaw03_freed_l0, e1, e2, e6, e7, e8, onB, onN, results, rdRess, rdRes, hh, hcc, hlen, hl2, hl3]
end Av
end

section
/- Contract: mends. -/
set_option linter.unusedSimpArgs false
set_option linter.unusedVariables false
namespace Av
open Go (IntKind BinOp UnOp)
def mend : List Int → Bk → Bool
  | [], b => b.can (inL [])
  | x :: l, b => (List.range 7).any fun n => mend l (b.told x.toNat (n : Nat))
theorem c51 : ∀ (l : List Int) (b : Bk), b.ok = true → (∀ x ∈ l, 0 ≤ x ∧ x < b.ms.length) → l.length ≤ 1000 → icall pr (.fn 51 [] []) [b.v, .sl (iv l) .shut] = some (.bool (mend l b)) := by
  intro l
  induction l with
  | nil =>
    intro b hok _ _
    refine icall_fn fn51 rfl (by simp) (by simp) rfl ?_
    have c1 := c15 b (ok_fit hok)
    rw [hok] at c1
    simp [g51_macadamlaw03_mends, g51_macadamlaw03_mends_c, c1, results, rdRess, rdRes, mend]
  | cons x l ih =>
    intro b hok hl hll
    refine icall_fn fn51 rfl (by simp) (by simp) rfl ?_
    have hlen := ok_len hok
    have hx := hl x (by simp)
    obtain ⟨x, rfl⟩ := toInt hx.1
    have hxl : x < b.ms.length := by omega
    have htk : (iv l).take l.length = iv l := by rw [← iv_len l, List.take_length]
    have hm0 : b.ms.length ≠ 0 := by omega
    have hcl : (mc b.ms).length = b.ms.length * 4 := mc_len _
    have hle : x * 4 + 3 + 1 ≤ b.ms.length * 4 := by omega
    have hrec : ∀ n : Nat, n < 7 → icall pr (.fn 51 [] []) [(b.told x n).v, .sl (iv l) .shut] = some (.bool (mend l (b.told x n))) := fun n hn =>
      ih (b.told x n) (told_ok hok x (by omega)) (fun y hy => by
        have := hl y (by simp [hy])
        simp only [Bk.told, told_len]; exact this) (by simp at hll; omega)
    have hll2 : ((l.length : Int) + 1) ≠ 0 := by omega
    have hmend : mend (x :: l) b = (List.range 7).any fun n => mend l (b.told x (n : Nat)) := by simp [mend]
    rw [hmend]
    simp [g51_macadamlaw03_mends, g51_macadamlaw03_mends_c, hll2]
    refine wpr_seq (wpr_oblock (loop_up pr (fun k e h => e 1 = .sl (iv (x :: l)) .shut ∧ e 2 = b.bx ∧ e 7 = .int .i64 k ∧ ∀ j, j < k → mend l (b.told x j) = false) 7 ?_ ?_ 0 _ _ (by omega) ⟨rfl, rfl, rfl, fun j hj => by omega⟩))
    · rintro k e h hk ⟨e1, e2, e7, hj⟩
      have hw : IntKind.wrap .i64 ((k : Int) + 1) = k + 1 := wrap_id (by omega) (by omega)
      have hk6 : (k : Int) ≤ 6 := by omega
      have ha := appM_new (h := h) (sz := 4) (bytes := 32) (new := mvs b.ms) (k2 := .shut) (by simpa using hm0) (mvs_cell4 _) (by simp; omega)
      simp only [mvs_cells, mvs_len] at ha
      have hsp := splice_iv1 (l := mc b.ms) (k := x * 4 + 3) (k : Int) (by omega)
      rw [mc_set b.ms x k hxl] at hsp
      have hcc := chunk_mc (toldAt b.ms x k)
      rw [told_len] at hcc
      have hcl2 : (mc (toldAt b.ms x k)).length = b.ms.length * 4 := by rw [mc_len, told_len]
      have hr := hrec k (by omega)
      simp only [Bk.v, Bk.told] at hr
      cases hq : mend l (b.told x k) with
      | true =>
        simp only [Bk.told] at hq
        rw [hq] at hr
        have hany : (List.range 7).any (fun n => mend l (b.told x (n : Nat))) = true := List.any_eq_true.2 ⟨k, List.mem_range.2 hk, hq⟩
        simp [g51_macadamlaw03_mends_l0, e1, e2, e7, hk6, hw, ha, hcl, hle, hsp, hcc, hcl2, hxl, htk, hr, onB, onN, results, rdRess, rdRes]
        exact ⟨k, hk, hq⟩
      | false =>
        have hj2 : ∀ j, j < k + 1 → mend l (b.told x j) = false := fun j hj3 => by
          by_cases h1 : j = k
          · rw [h1]; exact hq
          · exact hj j (by omega)
        simp only [Bk.told] at hq
        rw [hq] at hr
        simp [g51_macadamlaw03_mends_l0, e1, e2, e7, hk6, hw, ha, hcl, hle, hsp, hcc, hcl2, hxl, htk, hr, onB, onN, results, rdRess, rdRes]
        exact hj2
    · rintro e h ⟨e1, e2, e7, hj⟩
      have hany : (List.range 7).any (fun n => mend l (b.told x (n : Nat))) = false := by
        rw [List.any_eq_false]
        intro n hn
        rw [hj n (List.mem_range.1 hn)]; simp
      simp [g51_macadamlaw03_mends_l0, e1, e2, e7, onB, onN, results, rdRess, rdRes]
      exact hj
end Av
end

section
/- The law of the tallies that must be false. -/
set_option linter.unusedSimpArgs false
set_option linter.unusedVariables false
namespace Av
open Go (IntKind BinOp UnOp)
theorem told_more (ms : List Mv) (x : Nat) (n : Int) (l : List Int) (h : Int) (k : Nat) : more (toldAt ms x n) l h k = more ms l h k := by
  induction k with
  | zero => rfl
  | succ k ih =>
    simp only [more, ih, told_get]
    by_cases hk : k = x
    · rw [if_pos hk]; cases ms[k]? <;> rfl
    · rw [if_neg hk]
theorem told_lowTo (ms : List Mv) (x : Nat) (n : Int) (l : List Int) (h lo : Int) (k : Nat) : lowTo (toldAt ms x n) l h lo k = lowTo ms l h lo k := by
  induction k with
  | zero => rfl
  | succ k ih => simp only [lowTo, ih, told_more]
theorem told_fits (b : Bk) (x : Nat) (n : Int) (l : List Int) : (b.told x n).fits l = b.fits l := by
  simp only [Bk.fits, Bk.told, Bk.firstLo, Bk.firstHi, told_len, told_more, told_lowTo]
  rfl
theorem told_lie (b : Bk) (x : Nat) (n c : Int) : (b.told x n).lie c = b.lie c := rfl
theorem lie_nn {b : Bk} (hok : b.ok = true) (c : Int) : 0 ≤ b.lie c := by
  have := ok_lies hok
  unfold Bk.lie; split; omega; split; omega; split <;> omega
/-- a truth of a book in which a load was told otherwise is one of the book in which that tally is left out -/
theorem told_tr {b : Bk} {x : Nat} {n : Int} {bs : Nat → Bool} {t : List Int} (h : Tr (b.told x n) bs t) : Tr b (fun j => bs j || decide (j = x)) t := by
  refine ⟨h.lok, fun j hj => h.nil j (by simp only [Bk.told, told_len]; exact hj), fun j hj => ?_, by rw [← told_fits b x n]; exact h.fits⟩
  have hm : b.ms[j]? = some b.ms[j] := List.getElem?_eq_getElem hj
  refine (right_iff hm).2 ?_
  by_cases hx : j = x
  · left; simp [hx]
  · have hm2 : (b.told x n).ms[j]? = some b.ms[j] := by simp only [Bk.told, told_get, if_neg hx]; exact hm
    rcases (right_iff hm2).1 (h.right j (by simp only [Bk.told, told_len]; exact hj)) with h1 | h1
    · left; simp [h1]
    · right; exact h1
theorem freed_tr {b : Bk} {l : List Int} {f : Nat → Int} (hl : ∀ x ∈ l, 0 ≤ x) {t : List Int} : ∀ k, k ≤ l.length → ∀ bs : Nat → Bool, (∀ j, bs j = true → inL l j = true) → Tr (b.freed l f k) bs t → Tr b (inL l) t := by
  intro k
  induction k with
  | zero => intro _ bs hbs h; exact tr_mono (fun j _ hj => hbs j hj) h
  | succ k ih =>
    intro hk bs hbs h
    refine ih (by omega) _ (fun j hj => ?_) (told_tr h)
    simp only [Bool.or_eq_true, decide_eq_true_eq] at hj
    rcases hj with hj | hj
    · exact hbs j hj
    · have hkl : k < l.length := by omega
      have h0 := hl l[k] (List.getElem_mem hkl)
      simp only [inL, decide_eq_true_eq]
      rw [List.getD_eq_getElem?_getD, List.getElem?_eq_getElem hkl] at hj
      simp at hj
      have : (j : Int) = l[k] := by omega
      rw [this]; exact List.getElem_mem hkl
theorem told_true {b : Bk} (hok : b.ok = true) {x : Nat} {l : List Int} {t : List Int} (h : Tr b (inL ((x : Int) :: l)) t) : Tr (b.told x (t.getD x 0)) (inL l) t := by
  refine ⟨h.lok, fun j hj => h.nil j (by simpa only [Bk.told, told_len] using hj), fun j hj => ?_, by rw [told_fits]; exact h.fits⟩
  simp only [Bk.told, told_len] at hj
  have hm : b.ms[j]? = some b.ms[j] := List.getElem?_eq_getElem hj
  by_cases hx : j = x
  · have hm2 : (b.told x (t.getD x 0)).ms[j]? = some (b.ms[j].told (t.getD x 0)) := by simp only [Bk.told, told_get, if_pos hx, hm, Option.map_some]
    refine (right_iff hm2).2 (.inr ?_)
    have := lie_nn hok b.ms[j].c
    subst hx
    rw [told_lie]
    simp only [Mv.told]
    omega
  · have hm2 : (b.told x (t.getD x 0)).ms[j]? = some b.ms[j] := by simp only [Bk.told, told_get, if_neg hx]; exact hm
    refine (right_iff hm2).2 ?_
    rcases (right_iff hm).1 (h.right j hj) with h1 | h1
    · left
      simp only [inL, decide_eq_true_eq, List.mem_cons] at h1 ⊢
      rcases h1 with h1 | h1
      · omega
      · exact h1
    · right; exact h1
theorem mend_of : ∀ (l : List Int) (b : Bk), b.ok = true → (∀ x ∈ l, 0 ≤ x) → ∀ t, Tr b (inL l) t → mend l b = true := by
  intro l
  induction l with
  | nil => intro b hok _ t ht; exact (can_iff hok).2 ⟨t, ht⟩
  | cons x l ih =>
    intro b hok hl t ht
    obtain ⟨x, rfl⟩ := toInt (hl x (by simp))
    have h6 := lok_get ht.lok x
    obtain ⟨n, hn⟩ := toInt h6.1
    rw [mend, List.any_eq_true]
    refine ⟨n, List.mem_range.2 (by omega), ?_⟩
    have := told_true hok ht
    rw [hn] at this
    exact ih _ (told_ok hok x (by omega)) (fun y hy => hl y (by simp [hy])) t this
theorem freed_ok {b : Bk} (hok : b.ok = true) {l : List Int} {f : Nat → Int} (hf : ∀ k, 0 ≤ f k ∧ f k ≤ 6) (k : Nat) : (b.freed l f k).ok = true := by
  induction k with
  | zero => exact hok
  | succ k ih => exact told_ok ih _ (hf k)
theorem law13 (b : Bk) (hb : b.fit) (bits : List Int) (hbits : (bits.length : Int) ≤ 9223372036854775807) (n : Int) :
    ∃ h', dcall pr (.fn 13 [] []) [b.v, .sl (iv bits) .shut, .int .i64 n] H.emp = some (.bool true, h') := by
  refine law_of fn13 rfl ?_
  have a1 := c33 b hb
  have a2 := c35 b hb
  cases hok : b.ok with
  | false =>
    have hw : b.wrong = ([], 30) := by simp [Bk.wrong, hok]
    rw [hw] at a1
    rw [hok] at a2
    simp [g13_macadamlaw03_StoneWrong, g13_macadamlaw03_StoneWrong_c, a1, a2, c23, results, rdRess, rdRes]
  | true =>
  have hlen := ok_len hok
  rw [hok] at a2
  have a3 := c15 b hb
  rw [hok] at a3
  simp only [Bool.true_and, if_true] at a3
  have h32 : 2 ^ b.ms.length ≤ 32 := Nat.le_trans (Nat.pow_le_pow_right (by omega) hlen.2.2) (by decide)
  have hp : 0 < 2 ^ b.ms.length := Nat.pow_pos (by omega)
  have hsh := bin_shl b.ms.length (by omega)
  have a4 := c38 n ((2 ^ b.ms.length : Nat) : Int) (by omega)
  have w1 := wrapI_bd n (m := ((2 ^ b.ms.length : Nat) : Int)) (by omega)
  obtain ⟨s, hs⟩ := toInt w1.1
  rw [hs] at a4 w1
  have a5 := c48 s b.ms.length (by omega) (by omega)
  have hO := outs_rise s b.ms.length
  have hOl := outs_len s b.ms.length
  generalize hOd : outs s b.ms.length = O at *
  have hOm : ∀ x ∈ O, 0 ≤ x ∧ x < b.ms.length := fun x hx => by have := ((rising_iff _ O _).1 hO).2 x hx; omega
  have a6 := c49 b hb (by omega) O bits hOm (by omega) hbits
  have hfr := freed_ok hok (l := O) (f := fun k => wrapI (pickI bits k) 7) (fun k => by have := wrapI_bd (pickI bits k) (m := 7) (by omega); omega) O.length
  have hso : (b.freed O (fun k => wrapI (pickI bits k) 7) O.length).can (inL []) = true → b.can (inL O) = true := fun h => by
    obtain ⟨t, ht⟩ := (can_iff hfr).1 h
    exact (can_iff hok).2 ⟨t, freed_tr (fun x hx => (hOm x hx).1) _ (Nat.le_refl _) (inL []) (fun j hj => by rw [inL_nil] at hj; cases hj) ht⟩
  have a7 := c15 _ (ok_fit hfr)
  rw [hfr] at a7
  simp only [Bool.true_and, if_true] at a7
  generalize (b.freed O (fun k => wrapI (pickI bits k) 7) O.length).can (inL []) = so at *
  generalize hF : b.freed O (fun k => wrapI (pickI bits k) 7) O.length = F at *
  have hw : b.wrong = match b.wrongO with | some l => (l, 0) | none => ([], 32) := by simp only [Bk.wrong, hok, if_true]; rfl
  simp only [Bk.v] at a1 a2 a3 a6 a7
  generalize 2 ^ b.ms.length = M at *
  cases hW : b.wrongO with
  | none =>
    rw [hW] at hw
    rw [hw] at a1
    have h1 := wrong_none hok hW [] rfl
    have h2 := wrong_none hok hW O hO
    have h3 : so = false := by
      rw [← Bool.not_eq_true]; intro h; rw [hso h] at h2; cases h2
    subst h3
    rw [h1] at a3
    simp [g13_macadamlaw03_StoneWrong, g13_macadamlaw03_StoneWrong_c, a1, a2, a3, a4, a5, a6, a7, hsh, c23, results, rdRess, rdRes]
  | some W =>
    rw [hW] at hw
    rw [hw] at a1
    obtain ⟨w1, w2, w3, w4⟩ := wrong_spec hok hW
    have hWm : ∀ x ∈ W, 0 ≤ x ∧ x < b.ms.length := fun x hx => by have := ((rising_iff _ W _).1 w1).2 x hx; omega
    have a8 := c40 W (by omega) b.ms.length
    rw [w1] at a8
    have a9 := c50 O W (by omega)
    have a10 := c51 W b hok hWm (by omega)
    obtain ⟨t, ht⟩ := (can_iff hok).1 w2
    rw [mend_of W b hok (fun x hx => (hWm x hx).1) t ht] at a10
    have hnil : b.can (inL []) = decide (W = []) := by
      by_cases hq : W = []
      · rw [decide_eq_true hq, ← hq]; exact w2
      · rw [decide_eq_false hq, ← Bool.not_eq_true]
        intro h
        have := w4 [] rfl h (by simp)
        cases W with
        | nil => exact hq rfl
        | cons y W => simp [fewer] at this
    have hfe : so = true → fewer O W = false := fun h => w4 O hO (hso h) hOl
    simp only [Bk.v] at a10
    rw [hnil] at a3
    have e1 : ∀ a b : Bool, eqk none (.bool a) (.bool b) = some (a == b) := fun _ _ => rfl
    by_cases hq : W = []
    · subst hq
      simp only [iv_nil] at a1 a8 a9 a10
      cases so with
      | true =>
        rw [hfe rfl] at a9
        simp [g13_macadamlaw03_StoneWrong, g13_macadamlaw03_StoneWrong_c, a1, a2, a3, a4, a5, a6, a7, a8, a9, a10, e1, hsh, c23, results, rdRess, rdRes]
      | false =>
        simp [g13_macadamlaw03_StoneWrong, g13_macadamlaw03_StoneWrong_c, a1, a2, a3, a4, a5, a6, a7, a8, a9, a10, e1, hsh, c23, results, rdRess, rdRes]
    · rw [decide_eq_false hq] at a3
      cases so with
      | true =>
        rw [hfe rfl] at a9
        by_cases h3 : (3 : Int) < W.length <;>
          simp [g13_macadamlaw03_StoneWrong, g13_macadamlaw03_StoneWrong_c, a1, a2, a3, a4, a5, a6, a7, a8, a9, a10, hq, h3, e1, hsh, c23, results, rdRess, rdRes]
      | false =>
        by_cases h3 : (3 : Int) < W.length <;>
          simp [g13_macadamlaw03_StoneWrong, g13_macadamlaw03_StoneWrong_c, a1, a2, a3, a4, a5, a6, a7, a8, a9, a10, hq, h3, e1, hsh, c23, results, rdRess, rdRes]
end Av
end

section
/- StoneWrong returns true for every input, and its input reads as it did: no condition. -/
namespace Go.Proofs.YtpjhmbfpfbpciaaDoor.stoneWrongProof
open Go Go.Proofs Go.Proofs.YtpjhmbfpfbpciaaDoor Go.ChangeShapes Go.WideShapes Go.ChangeAt Go.RowKit Av
set_option linter.constructorNameAsVariable false
set_option linter.unusedVariables false
set_option maxRecDepth 20000

theorem contract (H : Type) (enc : TypeId × Value → H) (W : World) (base : Nat) (args : Array Value) (ds gs : List (DataW H)) (before : List MemPlace)
    (hval : ∀ (j : Nat) t v, Tryd.f13.params[j]? = some t → args[j]? = some v → Value.okWide Tryd.prog W .any base t v)
    (hW : DataW.Whole enc Tryd.prog Tryd.f13.params.toList Rows.stoneWrongSpec.vars false W args.toList ds gs before) (hL : Globs W) :
    Calls Tryd.prog 13 args W fun e W' => ∃ v, e = .returned v ∧ Rows.stoneWrongSpec.post enc Tryd.prog Tryd.f13 false true false false W args v W' := by
  have hW' := hW
  have hlt := fun p hp => hW.lt p hp
  obtain ⟨p, q, hA0, hV, rfl, hfz, hnd⟩ := hW
  have hA : DataW.TrodAll enc Tryd.prog W 0 (fun _ => true) true Tryd.f13.params.toList args.toList ds p := hA0
  rw [Tryd.params13] at hA hval
  obtain ⟨v0, vs0, d0, ds0, p0, q0, hargs, rfl, rfl, h0, r0⟩ := trodAll_cons hA
  obtain ⟨v1, vs1, d1, ds1, p1, q1, rfl, rfl, rfl, h1, r1⟩ := trodAll_cons r0
  obtain ⟨v2, vs2, d2, ds2, p2, q2, rfl, rfl, rfl, h2, r2⟩ := trodAll_cons r1
  obtain ⟨rfl, rfl, rfl⟩ := trodAll_nil r2
  obtain rfl : args = #[v0, v1, v2] := by cases args; simp_all
  obtain ⟨rfl, rfl⟩ := trodVars_none hV
  obtain ⟨hs, ms, ls, w1, w2, w3, hVR0⟩ := book_open (hval 0 26 v0 rfl rfl) h0
  obtain ⟨b, hb, hbv⟩ := bk_of w1 w2 w3
  rw [hbv] at hVR0
  obtain ⟨fu1, hf1⟩ := h1
  have h1 : DataW.Trod enc Tryd.prog W 0 (fun _ => true) true 41 v1 d1 p1 := ⟨fu1, hf1⟩
  obtain ⟨ck1, cc1⟩ := sl_cells u41 (hval 1 41 v1 rfl rfl)
  rw [cc1] at hf1
  obtain ⟨rows1, x1, y1, hVR1⟩ := sl_read u41 t3 c3 (by omega) (spot_of u41 ck1) hf1
  obtain ⟨l1, hl1, hlv1⟩ := sl_of ⟨x1, y1⟩
  rw [hlv1] at hVR1
  obtain ⟨n2, rfl, rfl, rfl, wf2⟩ := open_int u3 (hval 2 3 v2 rfl rfl) h2
  obtain ⟨h', hx⟩ := law13 b hb l1 hl1 n2
  refine (law_ok (start_ok hL.1 hL.2.1 hL.2.2.1 hL.2.2.2) (by omega) hx (.cons hVR0 (.cons hVR1 (.cons (.int _ _) .nil)))).mono fun e W' ⟨he, hg, hsame⟩ => ?_
  subst he
  simp only [List.append_nil, List.nil_append] at hW' hlt
  have hq : ∀ (i : MemPlace), i ∈ (p0 ++ (p1 ++ ([] ++ []))) → i.block < W.heap.size := fun i hi => hlt i (by simpa using hi)
  have harg : ∀ sp : Nat → Bool, (∀ p ∈ (p0 ++ (p1 ++ ([] ++ []))), sp p.block = true) → DataW.TrodAll enc Tryd.prog W' 0 sp true [26, 41, 3] [v0, v1, .int .i64 n2] [d0, d1, .lit (.int .i64 n2)] (p0 ++ (p1 ++ ([] ++ []))) := fun sp hsp =>
    (trodAll_cons_mk (trod_stay1 rec26 row26 h0 hsame (fun p hp => hq p (by simp [hp])) fun p hp => hsp p (by simp [hp])) (trodAll_cons_mk (trod_stay1 rec41 row41 h1 hsame (fun p hp => hq p (by simp [hp])) fun p hp => hsp p (by simp [hp])) (trodAll_cons_mk (shut_int u3 wf2) trodAll_mk0)))
  exact ⟨_, rfl, post_of_same (pa := (p0 ++ (p1 ++ ([] ++ [])))) (pv := []) hW' (fun _ _ _ => trodAll_cons_mk (shut_bool Tryd.underlying4 _) trodAll_mk0) (fun sp hsp => harg sp (by simpa using hsp)) (fun _ _ => rfl) (by simp)
    (hg.frame _) hg.2.1 (ok_one (by kernel_rfl) rfl (okWide_bool_mk Tryd.underlying4 _))⟩

theorem met (os : Os) : laidMetH Tryd.prog Rows.stoneWrongRow.laid ((laidWorld os).forCall (fun _ _ => 0) ⟨#[], #[bookZ, .slice none 0 0, .int .i64 0], []⟩).memory :=
  laidMetH_of_parts3 (fuel := 8) (laidMet_of_run' 8 (by kernel_rfl) (by kernel_rfl)) (by kernel_rfl) (by kernel_rfl)
theorem reads (os : Os) {H : Type} (enc : TypeId × Value → H) : ∃ places, DataW.whole enc Tryd.prog ((laidWorld os).forCall (fun _ _ => 0) ⟨#[], #[bookZ, .slice none 0 0, .int .i64 0], []⟩).memory Tryd.f13.params.toList Rows.stoneWrongSpec.vars false (#[bookZ, .slice none 0 0, .int .i64 0] : Array Value).toList 8 = some ([bookD, .nil, .lit (.int .i64 0)], [], places) :=
  ⟨[], by kernel_rfl⟩
set_option maxRecDepth 100000 in
theorem lifted (os : Os) (started : os.Started) (H : Type) (enc : TypeId × Value → H) (F : Stop.Interp) :
    ReturnsInHanded {} Tryd.checked os 13 .any ((OpenSpec.ofChange Rows.stoneWrongSpec).preRow enc Tryd.prog Tryd.f13 Rows.stoneWrongRow.domain false Rows.stoneWrongRow.laid) (((OpenSpec.ofChange Rows.stoneWrongSpec).at F).post enc Tryd.prog Tryd.f13 false true false false) := by
  obtain ⟨places, hx⟩ := reads os enc
  refine returnsInHanded_of_row (C := Tryd.checked) (s := OpenSpec.ofChange Rows.stoneWrongSpec) ownK started (by kernel_rfl) Tryd.func13
    (witness_row_at (enc := enc) (C := Tryd.checked) false (laidWorld os) #[bookZ, .slice none 0 0, .int .i64 0] rfl (by kernel_rfl) (by kernel_rfl) (by kernel_rfl)
      (OpenSpec.preRow_of_cond 8 hx (by kernel_rfl) (fun k hk => by cases hk) (by kernel_rfl) (met os))) ?_
  intro W base args ds gs before hval hW _ _ _ hL _ _
  exact contract H enc W base args ds gs before hval hW (globs_of hL)
theorem said : Rows.StoneWrongSaid :=
  OpenClaim.holds_of_cond 13 Tryd.f13 rfl rfl rfl rfl rfl rfl rfl ⟨rfl, rfl, rfl, rfl, rfl⟩ rfl rfl rfl rfl rfl (by kernel_rfl) Tryd.func13 (by kernel_rfl)
    (of_decide_eq_true (by kernel_rfl)) (by unfold Func.isWrapper; first | (rw [if_pos (by decide +kernel)]; kernel_rfl) | (rw [if_neg (by decide +kernel)]; exact ⟨rfl, rfl⟩))
    (fun os started H enc _ F => by rw [OpenClaim.pre_eq_preRow]; exact lifted os started H enc F)
theorem plain (f : FuncId) (fn : Func) (hf : Tryd.pinned.checked.prog.funcNamed "macadam/macadamlaw03.StoneWrong" = some f) (hfn : Tryd.pinned.checked.prog.funcs[f]? = some fn) :
    false = Tryd.pinned.checked.prog.looks [] ∧ ∀ (j : Nat) t, fn.params[j]? = some t → Tryd.pinned.checked.prog.wantsStandIn t = false := by
  obtain rfl : f = 13 := Option.some.inj ((show Tryd.prog.funcNamed "macadam/macadamlaw03.StoneWrong" = some 13 by kernel_rfl).symm.trans hf) |>.symm
  obtain rfl : fn = Tryd.f13 := (Option.some.inj (Tryd.func13.symm.trans hfn)).symm
  refine ⟨by kernel_rfl, fun j t ht => ?_⟩
  rw [Tryd.params13] at ht
  have hm : t ∈ [26, 41, 3] := by simpa using Array.mem_of_getElem? ht
  simp only [List.mem_cons, List.not_mem_nil, or_false] at hm
  rcases hm with rfl | rfl | rfl
  · exact want26
  · exact want41
  · exact want3
theorem card : Rows.StoneWrongCardSaid :=
  Claim7.holds_tied_plain_at .later [] _ _ _ _ said (fun _ h => by cases h) (by kernel_rfl) (fun _ h => by cases h) stoneWrong_row_tie rfl ⟨rfl, rfl⟩ (by kernel_rfl) rfl plain (by kernel_rfl)
end Go.Proofs.YtpjhmbfpfbpciaaDoor.stoneWrongProof
namespace Go.Proofs.YtpjhmbfpfbpciaaDoor
theorem stoneWrong_card : Rows.StoneWrongCardSaid := stoneWrongProof.card
end Go.Proofs.YtpjhmbfpfbpciaaDoor
end

