/- Contracts of the layer of claims, first part: the conditions stand in each statement. -/
import Derived.Test.YtnlflblfonkapaaGreatDoorAvME
import Derived.Test.YtnlflblfonkapaaGreatDoorAvMG
set_option linter.all false
set_option linter.unusedSectionVars false
set_option linter.unusedVariables false
set_option linter.unusedSimpArgs false
set_option linter.unnecessarySimpa false
section
/- Claims' books as plain data. -/
set_option linter.unusedSimpArgs false
set_option linter.unusedVariables false
namespace Av
open Go (IntKind BinOp UnOp)

/-- a stage: due, what it takes, what the road costs, how long it stops -/
structure Stg where
  due : Int
  dl : Int
  dh : Int
  rl : Int
  rh : Int
  sl : Int
  sh : Int
/-- a clock: its stage, what it reads, by how much it is wrong -/
structure Clk where
  s : Int
  r : Int
  e : Int
structure Cbk where
  ss : List Stg
  w : Int
  c0 : Int
  c1 : Int
  c2 : Int
  cs : List Clk
  rate : Int
abbrev Stg.v (x : Stg) : AV := .agg [.int .i64 x.due, .int .i64 x.dl, .int .i64 x.dh, .int .i64 x.rl, .int .i64 x.rh, .int .i64 x.sl, .int .i64 x.sh]
abbrev Clk.v (x : Clk) : AV := .agg [.int .i64 x.s, .int .i64 x.r, .int .i64 x.e]
def svs (l : List Stg) : List AV := l.map Stg.v
def cvs (l : List Clk) : List AV := l.map Clk.v
abbrev Cbk.c (b : Cbk) : List AV := [.sl (svs b.ss) .shut, .int .i64 b.w, .int .i64 b.c0, .int .i64 b.c1, .int .i64 b.c2, .sl (cvs b.cs) .shut, .int .i64 b.rate]
abbrev Cbk.v (b : Cbk) : AV := .agg b.c
def Cbk.fit (b : Cbk) : Prop := (b.ss.length : Int) ≤ 9223372036854775807 ∧ (b.cs.length : Int) ≤ 9223372036854775807
@[simp] theorem svs_len (l) : (svs l).length = l.length := by simp [svs]
@[simp] theorem cvs_len (l) : (cvs l).length = l.length := by simp [cvs]
@[simp] theorem svs_get (l : List Stg) (k : Nat) : (svs l)[k]? = l[k]?.map Stg.v := by simp [svs]
@[simp] theorem cvs_get (l : List Clk) (k : Nat) : (cvs l)[k]? = l[k]?.map Clk.v := by simp [cvs]
@[simp] theorem svs_getE (l : List Stg) (k : Nat) (h) : (svs l)[k]'h = Stg.v (l[k]'(by simpa using h)) := by simp [svs]
@[simp] theorem cvs_getE (l : List Clk) (k : Nat) (h) : (cvs l)[k]'h = Clk.v (l[k]'(by simpa using h)) := by simp [cvs]
@[simp] theorem svs_clean (l) : cleans (svs l) = true := by
  induction l with
  | nil => rfl
  | cons x l ih => simpa [svs, Stg.v] using ih
@[simp] theorem cvs_clean (l) : cleans (cvs l) = true := by
  induction l with
  | nil => rfl
  | cons x l ih => simpa [cvs, Clk.v] using ih
theorem cvs_cell3 (l) : (cvs l).all (fun v => decide (v.cells.length = 3)) = true := by
  induction l with
  | nil => rfl
  | cons x l ih => simpa [cvs, Clk.v] using ih

/-- is a span from a low number to a high one? -/
def spanOk (a b low high wide : Int) : Bool := decide (low ≤ a ∧ a ≤ b ∧ b ≤ high ∧ b - a ≤ wide)
def Stg.ok (x : Stg) (due : Int) : Bool := decide (due + 1 ≤ x.due ∧ x.due ≤ 300) && spanOk x.dl x.dh 1 90 2 && spanOk x.rl x.rh 0 30 2 && spanOk x.sl x.sh 0 20 1
def stagesOk : Int → List Stg → Bool
  | _, [] => true
  | due, x :: l => x.ok due && stagesOk x.due l
def Clk.ok (n : Nat) (x : Clk) : Bool := decide (0 ≤ x.s ∧ x.s < n) && decide (0 ≤ x.r ∧ x.r ≤ 600) && decide (0 ≤ x.e ∧ x.e ≤ 5)
def costOk (n : Int) : Bool := decide (0 ≤ n ∧ n ≤ 30)
def Cbk.ok (b : Cbk) : Bool := decide (1 ≤ b.ss.length ∧ b.ss.length ≤ 3) && decide (1 ≤ b.w ∧ b.w ≤ 7) && decide (b.cs.length ≤ 4) && decide (0 ≤ b.rate ∧ b.rate ≤ 99) &&
  stagesOk 0 b.ss && (costOk b.c0 && costOk b.c1 && costOk b.c2) && b.cs.all (Clk.ok b.ss.length)

/-- what a growing slice is -/
def OpnT (h : H) (k : SK) : Prop := k = .exact ∨ ∃ t, k = .opn t ∧ t < h.n ∧ h.get t = some .tok
theorem app_okT {h : H} {sz bytes : Nat} {es new : List AV} {k k2 : SK} (ho : OpnT h k) (hn : new.length ≠ 0) (he : es.all (fun v => decide (v.cells.length = sz)) = true)
    (hnew : new.all (fun v => decide (v.cells.length = sz) && v.flats) = true) (hr : (es.length + new.length) * bytes ≤ 140737488355328 ∧ es.length + new.length ≤ 4611686018427387904) :
    ∃ h', oapp h sz bytes (some (.sl es k)) (some (.sl new k2)) = some (.sl (es ++ new.map AV.shutv) (.opn h.n), h') ∧ h'.n = h.n + 1 ∧ h'.get h.n = some .tok ∧
      ∀ j, j < h.n → k ≠ .opn j → h'.get j = h.get j := by
  have h1 : elemsOf sz (.sl new k2) = some new := by simp only [elemsOf, hnew, if_true]
  have h2 : roomFor (es.length + new.length) bytes = true := by simp only [roomFor]; exact decide_eq_true hr
  simp only [oapp, oappS, h1, hn, if_false, he, h2, and_self, if_true]
  rcases ho with rfl | ⟨t, rfl, ht, hg⟩
  · exact ⟨_, rfl, by simp, by simp, fun j hj _ => by simp; omega⟩
  · simp only [hg]
    refine ⟨_, rfl, by simp, by simp, fun j hj hne => ?_⟩
    have : j ≠ t := fun q => hne (q ▸ rfl)
    simp [this]; omega
theorem OpnT.mk {h : H} {t : Nat} (h1 : t < h.n) (h2 : h.get t = some .tok) : OpnT h (.opn t) := .inr ⟨t, rfl, h1, h2⟩

/-- any number, brought to one below another -/
def wrapI (n m : Int) : Int := if m ≤ 0 then 0 else n % m
theorem wrapI_bd (n : Int) {m : Int} (h : 0 < m) : 0 ≤ wrapI n m ∧ wrapI n m < m := by
  unfold wrapI; rw [if_neg (by omega)]
  exact ⟨Int.emod_nonneg _ (by omega), Int.emod_lt_of_pos _ h⟩
theorem tmod_wrap (n m : Int) (h : 0 < m) : (if n.tmod m < 0 then n.tmod m + m else n.tmod m) = n % m := by
  have h1 := Int.tmod_add_mul_tdiv n m
  have h2 : n.tmod m < m := Int.tmod_lt_of_pos n h
  have h3 : -m < n.tmod m := by
    have := Int.lt_tmod_of_pos n h; omega
  split
  · have : n = (n.tmod m + m) + m * (n.tdiv m - 1) := by rw [Int.mul_sub]; omega
    rw [this, Int.add_mul_emod_self_left, Int.emod_eq_of_lt (by omega) (by omega)]
    rw [← this]
  · have : n = n.tmod m + m * n.tdiv m := by omega
    rw [this, Int.add_mul_emod_self_left, Int.emod_eq_of_lt (by omega) (by omega)]
    rw [← this]
end Av
end

section
/- Contracts of the small functions. -/
set_option linter.unusedSimpArgs false
set_option linter.unusedVariables false
namespace Av
open Go (IntKind BinOp UnOp)
theorem k26 (a b c : Int) : icall pr (.fn 26 [] []) [.int .i64 a, .int .i64 b, .int .i64 c] = some (.bool (decide (b ≤ a ∧ a ≤ c))) := by
  refine icall_fn fn26 rfl rfl rfl rfl ?_
  by_cases h1 : b ≤ a <;> by_cases h2 : a ≤ c <;> simp [g26_claim_within, g26_claim_within_c, results, rdRess, rdRes, h1, h2]
theorem k37 (a b c : Int) : icall pr (.fn 37 [] []) [.int .i64 a, .int .i64 b, .int .i64 c] = some (.bool (decide (b ≤ a ∧ a ≤ c))) := by
  refine icall_fn fn37 rfl rfl rfl rfl ?_
  by_cases h1 : b ≤ a <;> by_cases h2 : a ≤ c <;> simp [g37_rut_within, g37_rut_within_c, results, rdRess, rdRes, h1, h2]
theorem k5 (a b c : Int) : icall pr (.fn 5 [] []) [.int .i64 a, .int .i64 b, .int .i64 c] = some (.bool (decide (b ≤ a ∧ a ≤ c))) := by
  refine icall_fn fn5 rfl rfl rfl rfl ?_
  by_cases h1 : b ≤ a <;> by_cases h2 : a ≤ c <;> simp [g5_macadamref00_Amid, g5_macadamref00_Amid_c, results, rdRess, rdRes, h1, h2]
theorem k36 (a b : Int) : icall pr (.fn 36 [] []) [.int .i64 a, .int .i64 b] = some (.agg [.int .i64 a, .int .i64 b]) := by
  refine icall_fn fn36 rfl rfl rfl rfl ?_
  simp [g36_macadamref00_Reach, g36_macadamref00_Reach_c, results, rdRess, rdRes]
theorem k35 (a : Int) : icall pr (.fn 35 [] []) [.int .i64 a] = some (.agg [.int .i64 a, .int .i64 a]) := by
  refine icall_fn fn35 rfl rfl rfl rfl ?_
  simp [g35_macadamref00_Just, g35_macadamref00_Just_c, results, rdRess, rdRes, k36]
theorem k23 (n m : Int) (hm : m ≤ 1000000) : icall pr (.fn 23 [] []) [.int .i64 n, .int .i64 m] = some (.int .i64 (wrapI n m)) := by
  refine icall_fn fn23 rfl rfl rfl rfl ?_
  by_cases h1 : m ≤ 0
  · simp [g23_macadamref00_Wrap, g23_macadamref00_Wrap_c, results, rdRess, rdRes, h1, wrapI]
  · have h0 : m ≠ 0 := by omega
    have h2 : n.tmod m < m := Int.tmod_lt_of_pos n (by omega)
    have h3 : -m < n.tmod m := by have := Int.lt_tmod_of_pos n (show 0 < m by omega); omega
    have hw : IntKind.wrap .i64 (n.tmod m + m) = n.tmod m + m := wrap_id (by omega) (by omega)
    have ht := tmod_wrap n m (by omega)
    have hW : wrapI n m = n % m := by rw [wrapI, if_neg h1]
    rw [hW, ← ht]
    by_cases h4 : n.tmod m < 0 <;> simp [g23_macadamref00_Wrap, g23_macadamref00_Wrap_c, results, rdRess, rdRes, h1, h0, h4, hw]
theorem k14 (l m : List Int) (hl : (l.length : Int) ≤ 9223372036854775807) : icall pr (.fn 14 [] []) [.sl (iv l) .shut, .sl (iv m) .shut] = some (.bool (decide (l = m))) := by
  refine icall_fn fn14 rfl (by simp) (by simp) rfl ?_
  simp [g14_macadamref00_Like, g14_macadamref00_Like_c]
  refine wpr_seq (wpr_oblock (loop_up pr (fun k e h => e 0 = .sl (iv l) .shut ∧ e 1 = .sl (iv m) .shut ∧ e 6 = .int .i64 k ∧ e 5 = .bool (decide (l.length = m.length ∧ l.take k = m.take k))) l.length ?_ ?_ 0 _ _ (by omega) ⟨rfl, rfl, rfl, by simp; omega⟩))
  · rintro k e h hk ⟨e0, e1, e6, e5⟩
    have hw : IntKind.wrap .i64 ((k : Int) + 1) = k + 1 := wrap_id (by omega) (by omega)
    by_cases hp : l.length = m.length ∧ l.take k = m.take k
    · have hkm : k < m.length := by omega
      rw [decide_eq_true hp] at e5
      have hp2 : decide (l.length = m.length ∧ l.take (k + 1) = m.take (k + 1)) = decide (l[k] = m[k]) := by
        apply decide_eq_decide.2
        have h1 : l.take (k + 1) = l.take k ++ [l[k]] := by rw [List.take_add_one, List.getElem?_eq_getElem hk]; rfl
        have h2 : m.take (k + 1) = m.take k ++ [m[k]] := by rw [List.take_add_one, List.getElem?_eq_getElem hkm]; rfl
        rw [h1, h2, hp.2, List.append_right_inj]
        simp [hp.1]
      rw [hp2]
      simp [g14_macadamref00_Like_l0, e0, e1, e6, e5, hk, hkm, hw]
    · rw [decide_eq_false hp] at e5
      have hne : ¬ l = m := by rintro rfl; exact hp ⟨rfl, rfl⟩
      simp [g14_macadamref00_Like_l0, e0, e1, e6, e5, onB, onN, results, rdRess, rdRes, hne]
  · rintro e h ⟨e0, e1, e6, e5⟩
    have hq : decide (l.length = m.length ∧ l.take l.length = m.take l.length) = decide (l = m) := by
      apply decide_eq_decide.2
      constructor
      · rintro ⟨h1, h2⟩; rw [List.take_length, h1, List.take_length] at h2; exact h2
      · rintro rfl; exact ⟨rfl, rfl⟩
    rw [hq] at e5
    by_cases hlm : l = m
    · rw [decide_eq_true hlm] at e5
      simp [g14_macadamref00_Like_l0, e0, e1, e6, e5, onB, onN, results, rdRess, rdRes, hlm]
    · rw [decide_eq_false hlm] at e5
      simp [g14_macadamref00_Like_l0, e0, e1, e6, e5, onB, onN, results, rdRess, rdRes, hlm]

theorem k27 (a b low high wide : Int) (hl : 0 ≤ low) (hh : high ≤ 1000) : icall pr (.fn 27 [] []) [.agg [.int .i64 a, .int .i64 b], .int .i64 low, .int .i64 high, .int .i64 wide] = some (.bool (spanOk a b low high wide)) := by
  refine icall_fn fn27 rfl rfl rfl rfl ?_
  unfold spanOk
  by_cases h1 : low ≤ a <;> by_cases h2 : a ≤ b <;> by_cases h3 : b ≤ high
  · have w1 : IntKind.wrap .i64 (b - a) = b - a := wrap_id (by omega) (by omega)
    by_cases h4 : b - a ≤ wide <;> simp [g27_claim_isSpan, g27_claim_isSpan_c, results, rdRess, rdRes, h1, h2, h3, h4, w1]
  all_goals simp [g27_claim_isSpan, g27_claim_isSpan_c, results, rdRess, rdRes, h1, h2, h3]
theorem k28 (b : Cbk) (hb : b.fit) (x : Clk) : icall pr (.fn 28 [] []) [b.v, x.v] = some (.bool (x.ok b.ss.length)) := by
  refine icall_fn fn28 rfl rfl (by simp) rfl ?_
  have w1 : IntKind.wrap .i64 ((b.ss.length : Int) - 1) = b.ss.length - 1 := wrap_id (by omega) (by have := hb.1; omega)
  unfold Clk.ok
  have e1 : (x.s ≤ (b.ss.length : Int) - 1) = (x.s < b.ss.length) := by apply propext; omega
  by_cases h1 : 0 ≤ x.s ∧ x.s < b.ss.length
  · by_cases h2 : 0 ≤ x.r ∧ x.r ≤ 600
    · simp [g28_claim_isClock, g28_claim_isClock_c, results, rdRess, rdRes, k26, w1, e1, h1, h2]
    · simp [g28_claim_isClock, g28_claim_isClock_c, results, rdRess, rdRes, k26, w1, e1, h1, h2]
  · simp [g28_claim_isClock, g28_claim_isClock_c, results, rdRess, rdRes, k26, w1, e1, h1]
end Av
end

section
/- The contract of claim.Check. -/
set_option linter.unusedSimpArgs false
set_option linter.unusedVariables false
namespace Av
open Go (IntKind BinOp UnOp)
abbrev Cbk.bx (b : Cbk) : AV := .lbox 0 b.c
theorem l4_0 (b : Cbk) (hb : b.fit) (ok0 : Bool) (e h) (e1 : e 1 = b.bx) (e3 : e 3 = .bool ok0) (e4 : e 4 = .int .i64 0)
    (e32 : e 32 = .sl (svs b.ss) .shut) (e33 : e 33 = .int .i64 b.ss.length) (e34 : e 34 = .int .i64 0) :
    wpr (den pr (.loop g4_claim_Check_l0) e h) fun o e' h' => o = .exit 0 ∧ h' = h ∧ e' 3 = .bool (ok0 && stagesOk 0 b.ss) ∧ e' 1 = e 1 := by
  generalize hR : (ok0 && stagesOk 0 b.ss) = R
  refine loop_up pr (fun k e' h' => h' = h ∧ e' 1 = e 1 ∧ e' 32 = e 32 ∧ e' 33 = e 33 ∧ e' 34 = .int .i64 k ∧ ∃ B due, e' 3 = .bool B ∧ e' 4 = .int .i64 due ∧
    (B && stagesOk due (b.ss.drop k)) = R ∧ (B = true → 0 ≤ due ∧ due ≤ 300)) b.ss.length ?_ ?_ 0 e h (by omega) ⟨rfl, rfl, rfl, rfl, e34, ok0, 0, e3, e4, by simpa using hR, by simp⟩
  · rintro k e' h' hk ⟨rfl, q1, q32, q33, q34, B, due, q3, q4, hB, hd⟩
    rw [e1] at q1; rw [e32] at q32; rw [e33] at q33
    have hdr : b.ss.drop k = b.ss[k] :: b.ss.drop (k + 1) := List.drop_eq_getElem_cons hk
    have hw : IntKind.wrap .i64 ((k : Int) + 1) = k + 1 := wrap_id (by omega) (by have := hb.1; omega)
    rw [hdr] at hB
    generalize hx : b.ss[k] = x at hB
    cases hBb : B with
    | false =>
      rw [hBb] at q3 hB
      have hR2 : R = false := by rw [← hB]; simp
      simp [g4_claim_Check_l0, q3, q4, q1, q32, q33, q34, hk, hx, hw, e1, e32, e33, hR2]
    | true =>
      rw [hBb] at q3 hB
      obtain ⟨hd1, hd2⟩ := hd hBb
      have hw2 : IntKind.wrap .i64 (due + 1) = due + 1 := wrap_id (by omega) (by omega)
      simp only [Bool.true_and, stagesOk, Stg.ok] at hB
      by_cases h1 : due + 1 ≤ x.due ∧ x.due ≤ 300
      · have h1' : due < x.due := by omega
        cases h2 : spanOk x.dl x.dh 1 90 2 with
        | false =>
          have hR2 : R = false := by rw [← hB]; simp [h1, h2]
          simp [g4_claim_Check_l0, q3, q4, q1, q32, q33, q34, hk, hx, hw, e1, e32, e33, k26, k27, hw2, h1, h1', h2, hR2]
        | true =>
        cases h3 : spanOk x.rl x.rh 0 30 2 with
        | false =>
          have hR2 : R = false := by rw [← hB]; simp [h1, h2, h3]
          simp [g4_claim_Check_l0, q3, q4, q1, q32, q33, q34, hk, hx, hw, e1, e32, e33, k26, k27, hw2, h1, h1', h2, h3, hR2]
        | true =>
        cases h4 : spanOk x.sl x.sh 0 20 1 with
        | false =>
          have hR2 : R = false := by rw [← hB]; simp [h1, h2, h3, h4]
          simp [g4_claim_Check_l0, q3, q4, q1, q32, q33, q34, hk, hx, hw, e1, e32, e33, k26, k27, hw2, h1, h1', h2, h3, h4, hR2]
        | true =>
          simp [h1, h2, h3, h4] at hB
          simp [g4_claim_Check_l0, q3, q4, q1, q32, q33, q34, hk, hx, hw, e1, e32, e33, k26, k27, hw2, h1, h1', h2, h3, h4]
          exact ⟨hB, by omega⟩
      · have h1' : (decide (due < x.due) && decide (x.due ≤ 300)) = false := by
          rw [← Bool.not_eq_true]; simp; omega
        have h1'' : decide (due + 1 ≤ x.due ∧ x.due ≤ 300) = false := by simpa using h1
        have hR2 : R = false := by rw [← hB, h1'']; simp
        simp [g4_claim_Check_l0, q3, q4, q1, q32, q33, q34, hk, hx, hw, e1, e32, e33, k26, k27, hw2, h1, h1', h1'', hR2]
  · rintro e' h' ⟨rfl, q1, q32, q33, q34, B, due, q3, q4, hB, hd⟩
    rw [e33] at q33
    simp [stagesOk] at hB
    simp [g4_claim_Check_l0, q33, q34, q3, q1, hB]
theorem l4_1 (b : Cbk) (ok0 : Bool) (e h) (e3 : e 3 = .bool ok0) (e65 : e 65 = .agg [.int .i64 b.c0, .int .i64 b.c1, .int .i64 b.c2]) (e66 : e 66 = .int .i64 0) :
    wpr (den pr (.loop g4_claim_Check_l1) e h) fun o e' h' => o = .exit 2 ∧ h' = h ∧ e' 3 = .bool (ok0 && ([b.c0, b.c1, b.c2]).all costOk) ∧ e' 1 = e 1 := by
  refine loop_up pr (fun k e' h' => h' = h ∧ e' 3 = .bool (ok0 && (([b.c0, b.c1, b.c2]).take k).all costOk) ∧ e' 65 = e 65 ∧ e' 66 = .int .i64 k ∧ e' 1 = e 1) 3 ?_ ?_ 0 e h (by omega) ⟨rfl, by simpa using e3, rfl, e66, rfl⟩
  · rintro k e' h' hk ⟨rfl, q3, q65, q66, q1⟩
    rw [e65] at q65
    have hlt : (k : Int) < 3 := by omega
    obtain ⟨z, hz⟩ : ∃ z, [b.c0, b.c1, b.c2][k]? = some z := ⟨_, List.getElem?_eq_getElem (by simpa using hk)⟩
    have htk : (([b.c0, b.c1, b.c2]).take (k + 1)).all costOk = ((([b.c0, b.c1, b.c2]).take k).all costOk && costOk z) := by
      rw [List.take_add_one, hz, List.all_append]; simp
    have hp : part [.int .i64 b.c0, .int .i64 b.c1, .int .i64 b.c2] k 1 false = some (.int .i64 z) := by
      match k, hk with
      | 0, _ => simpa [part] using hz
      | 1, _ => simpa [part] using hz
      | 2, _ => simpa [part] using hz
    have hw : IntKind.wrap .i64 ((k : Int) + 1) = k + 1 := wrap_id (by omega) (by omega)
    cases hok : (ok0 && (([b.c0, b.c1, b.c2]).take k).all costOk) with
    | false =>
      rw [hok] at q3
      simp only [htk, ← Bool.and_assoc, hok]
      simp [g4_claim_Check_l1, q3, q65, q66, hlt, hp, hw, e65, q1]
    | true =>
      rw [hok] at q3
      simp only [htk, ← Bool.and_assoc, hok]
      simp [g4_claim_Check_l1, q3, q65, q66, hlt, hp, hw, e65, k26, costOk, q1]
  · rintro e' h' ⟨rfl, q3, q65, q66, q1⟩
    simp [g4_claim_Check_l1, q66, q3, q1]
theorem l4_2 (b : Cbk) (hb : b.fit) (ok0 : Bool) (e h) (e3 : e 3 = .bool ok0) (e1 : e 1 = b.bx)
    (e76 : e 76 = .sl (cvs b.cs) .shut) (e77 : e 77 = .int .i64 b.cs.length) (e78 : e 78 = .int .i64 0) :
    wpr (den pr (.loop g4_claim_Check_l2) e h) fun o e' h' => o = .exit 4 ∧ h' = h ∧ e' 3 = .bool (ok0 && b.cs.all (Clk.ok b.ss.length)) := by
  refine loop_up pr (fun k e' h' => h' = h ∧ e' 3 = .bool (ok0 && (b.cs.take k).all (Clk.ok b.ss.length)) ∧ e' 1 = e 1 ∧ e' 76 = e 76 ∧ e' 77 = e 77 ∧ e' 78 = .int .i64 k) b.cs.length ?_ ?_ 0 e h (by omega) ⟨rfl, by simpa using e3, rfl, rfl, rfl, e78⟩
  · rintro k e' h' hk ⟨rfl, q3, q1, q76, q77, q78⟩
    rw [e1] at q1; rw [e76] at q76; rw [e77] at q77
    have htk := all_take b.cs (Clk.ok b.ss.length) k hk
    generalize hx : b.cs[k] = x at htk
    have hw : IntKind.wrap .i64 ((k : Int) + 1) = k + 1 := wrap_id (by omega) (by have := hb.2; omega)
    have h28 := k28 b hb x
    cases hok : (ok0 && (b.cs.take k).all (Clk.ok b.ss.length)) with
    | false =>
      rw [hok] at q3
      simp [g4_claim_Check_l2, q3, q1, q76, q77, q78, hk, hx, hw, htk, e1, e76, e77, hok, ← Bool.and_assoc]
    | true =>
      rw [hok] at q3
      simp [g4_claim_Check_l2, q3, q1, q76, q77, q78, hk, hx, hw, htk, e1, e76, e77, hok, ← Bool.and_assoc, h28]
  · rintro e' h' ⟨rfl, q3, q1, q76, q77, q78⟩
    rw [e77] at q77
    simp [g4_claim_Check_l2, q77, q78, q3]
theorem k4 (b : Cbk) (hb : b.fit) : icall pr (.fn 4 [] []) [b.v] = some (.int .i64 (if b.ok then 0 else 60)) := by
  refine icall_fn fn4 rfl rfl (by simp) (by simp) ?_
  let B0 : Bool := decide ((1 : Int) ≤ b.ss.length ∧ (b.ss.length : Int) ≤ 3) && decide (1 ≤ b.w ∧ b.w ≤ 7) && decide ((b.cs.length : Int) ≤ 4) && decide (0 ≤ b.rate ∧ b.rate ≤ 99)
  have hB0 : b.ok = (((B0 && stagesOk 0 b.ss) && ([b.c0, b.c1, b.c2]).all costOk) && b.cs.all (Clk.ok b.ss.length)) := by
    have h1 : decide (1 ≤ b.ss.length ∧ b.ss.length ≤ 3) = decide ((1 : Int) ≤ b.ss.length ∧ (b.ss.length : Int) ≤ 3) := by apply decide_eq_decide.2; omega
    have h2 : decide (b.cs.length ≤ 4) = decide ((b.cs.length : Int) ≤ 4) := by apply decide_eq_decide.2; omega
    simp only [Cbk.ok, B0, h1, h2, List.all_cons, List.all_nil, Bool.and_true, Bool.and_assoc]
  by_cases h1 : (1 : Int) ≤ b.ss.length ∧ (b.ss.length : Int) ≤ 3
  · by_cases h2 : 1 ≤ b.w ∧ b.w ≤ 7
    · by_cases h3 : (b.cs.length : Int) ≤ 4
      · have hBv : B0 = decide (0 ≤ b.rate ∧ b.rate ≤ 99) := by simp only [B0, h1, h2, h3, and_self, decide_true, Bool.true_and]
        clear_value B0
        simp [g4_claim_Check, g4_claim_Check_c, k26, h1, h2, h3, - Bool.decide_and, ← hBv]
        refine wpr_seq (wpr_oblock (wpr_mono (l4_0 b hb B0 _ _ rfl rfl rfl rfl rfl rfl) ?_))
        rintro _ e _ ⟨rfl, rfl, q3, q1⟩
        simp [onB, onN, q1]
        refine wpr_seq (wpr_oblock (wpr_mono (l4_1 b _ _ _ q3 rfl rfl) ?_))
        clear q3
        rintro _ e2 _ ⟨rfl, rfl, q3, q2⟩
        simp [q1] at q2
        simp [onB, onN, q2]
        refine wpr_seq (wpr_oblock (wpr_mono (l4_2 b hb _ _ _ q3 (by simp [q2]) rfl rfl rfl) ?_))
        clear q3
        rintro _ e3 _ ⟨rfl, rfl, q3⟩
        rw [← hB0] at q3
        cases hX : b.ok <;> rw [hX] at q3 <;> simp [onB, onN, q3, results, rdRess, rdRes]
      · have hBv : B0 = false := by simp only [B0, h1, h2, h3, decide_false, Bool.and_false, Bool.false_and]
        clear_value B0
        subst hBv
        simp [g4_claim_Check, g4_claim_Check_c, k26, h1, h2, h3]
        refine wpr_seq (wpr_oblock (wpr_mono (l4_0 b hb false _ _ rfl rfl rfl rfl rfl rfl) ?_))
        rintro _ e _ ⟨rfl, rfl, q3, q1⟩
        simp [onB, onN, q1]
        refine wpr_seq (wpr_oblock (wpr_mono (l4_1 b _ _ _ q3 rfl rfl) ?_))
        clear q3
        rintro _ e2 _ ⟨rfl, rfl, q3, q2⟩
        simp [q1] at q2
        simp [onB, onN, q2]
        refine wpr_seq (wpr_oblock (wpr_mono (l4_2 b hb _ _ _ q3 (by simp [q2]) rfl rfl rfl) ?_))
        clear q3
        rintro _ e3 _ ⟨rfl, rfl, q3⟩
        rw [← hB0] at q3
        cases hX : b.ok <;> rw [hX] at q3 <;> simp [onB, onN, q3, results, rdRess, rdRes]
    · have hBv : B0 = false := by simp only [B0, h1, h2, decide_false, Bool.and_false, Bool.false_and]
      clear_value B0
      subst hBv
      simp [g4_claim_Check, g4_claim_Check_c, k26, h1, h2]
      refine wpr_seq (wpr_oblock (wpr_mono (l4_0 b hb false _ _ rfl rfl rfl rfl rfl rfl) ?_))
      rintro _ e _ ⟨rfl, rfl, q3, q1⟩
      simp [onB, onN, q1]
      refine wpr_seq (wpr_oblock (wpr_mono (l4_1 b _ _ _ q3 rfl rfl) ?_))
      clear q3
      rintro _ e2 _ ⟨rfl, rfl, q3, q2⟩
      simp [q1] at q2
      simp [onB, onN, q2]
      refine wpr_seq (wpr_oblock (wpr_mono (l4_2 b hb _ _ _ q3 (by simp [q2]) rfl rfl rfl) ?_))
      clear q3
      rintro _ e3 _ ⟨rfl, rfl, q3⟩
      rw [← hB0] at q3
      cases hX : b.ok <;> rw [hX] at q3 <;> simp [onB, onN, q3, results, rdRess, rdRes]
  · have hBv : B0 = false := by simp only [B0, h1, decide_false, Bool.and_false, Bool.false_and]
    clear_value B0
    subst hBv
    simp [g4_claim_Check, g4_claim_Check_c, k26, h1]
    refine wpr_seq (wpr_oblock (wpr_mono (l4_0 b hb false _ _ rfl rfl rfl rfl rfl rfl) ?_))
    rintro _ e _ ⟨rfl, rfl, q3, q1⟩
    simp [onB, onN, q1]
    refine wpr_seq (wpr_oblock (wpr_mono (l4_1 b _ _ _ q3 rfl rfl) ?_))
    clear q3
    rintro _ e2 _ ⟨rfl, rfl, q3, q2⟩
    simp [q1] at q2
    simp [onB, onN, q2]
    refine wpr_seq (wpr_oblock (wpr_mono (l4_2 b hb _ _ _ q3 (by simp [q2]) rfl rfl rfl) ?_))
    clear q3
    rintro _ e3 _ ⟨rfl, rfl, q3⟩
    rw [← hB0] at q3
    cases hX : b.ok <;> rw [hX] at q3 <;> simp [onB, onN, q3, results, rdRess, rdRes]
end Av
end

section
/- Contracts: books of one stage, and of one mile. -/
set_option linter.unusedSimpArgs false
set_option linter.unusedVariables false
set_option maxRecDepth 8000
namespace Av
open Go (IntKind BinOp UnOp)

/-- a book of one stage, or of one mile: when the coach is due, what it takes, what the road costs at least, the stop, what rain costs, the rate, what clocks read -/
structure Ob where
  due : Int
  a : Int
  z : Int
  low : Int
  sl : Int
  sh : Int
  c : Int
  rate : Int
  q : List (Int × Int)
abbrev ck (p : Int × Int) : Clk := ⟨0, p.1, p.2⟩
abbrev Ob.st (o : Ob) : Stg := ⟨o.due, o.a, o.z, o.low, o.low + 1, o.sl, o.sh⟩
abbrev Ob.cb (o : Ob) : Cbk := ⟨[o.st], 3, 0, o.c, 0, o.q.map ck, o.rate⟩
abbrev stf (p : Int × Int) : AV := .agg [.int .i64 0, .int .i64 0, .int .i64 p.1, .int .i64 p.2]
def stfs (l : List (Int × Int)) : List AV := l.map stf
abbrev Ob.rc (o : Ob) : List AV := [.sl [.agg [.int .i64 o.a, .int .i64 o.z]] .shut, .int .i64 o.low, .int .i64 (o.low + 1), .int .i64 0, .int .i64 0, .int .i64 o.c, .int .i64 o.c,
  .sl [.agg [.int .i64 1, .int .i64 0, .int .i64 1]] .shut, .sl [] .shut, .sl (stfs o.q) .shut, .int .i64 o.due]
abbrev Ob.rv (o : Ob) : AV := .agg o.rc
structure Ob.Ok (o : Ob) : Prop where
  due : 1 ≤ o.due ∧ o.due ≤ 300
  az : 1 ≤ o.a ∧ o.a ≤ o.z ∧ o.z ≤ 60 ∧ o.z - o.a ≤ 2
  low : 0 ≤ o.low ∧ o.low ≤ 3
  s : 0 ≤ o.sl ∧ o.sl ≤ o.sh ∧ o.sh ≤ 20 ∧ o.sh - o.sl ≤ 1
  c : 0 ≤ o.c ∧ o.c ≤ 4
  rate : 0 ≤ o.rate ∧ o.rate ≤ 99
  q : ∀ p ∈ o.q, (0 ≤ p.1 ∧ p.1 ≤ 600) ∧ 0 ≤ p.2 ∧ p.2 ≤ 5
  len : o.q.length ≤ 5
abbrev rd (y : Clk) : Int × Int := (y.r, y.e)
abbrev Cbk.one (b : Cbk) (x : Stg) : Ob := ⟨x.due, min x.dl 60, min x.dh 60, wrapI x.rl 4, x.sl, x.sh, wrapI b.c1 5, b.rate, b.cs.map rd⟩

theorem one_ok {b : Cbk} (h : b.ok = true) {x : Stg} {l : List Stg} (hx : b.ss = x :: l) : (b.one x).Ok := by
  simp only [Cbk.ok, Bool.and_eq_true, decide_eq_true_eq, hx, stagesOk, Stg.ok, spanOk] at h
  obtain ⟨⟨⟨⟨⟨⟨h1, h2⟩, h3⟩, h4⟩, ⟨⟨⟨h5, h6⟩, h7⟩, h8⟩, h9⟩, h10⟩, h11⟩ := h
  refine ⟨by simp only [Cbk.one]; omega, by simp only [Cbk.one]; omega, ?_, by simp only [Cbk.one]; omega, ?_, h4, ?_, by simp [Cbk.one]; omega⟩
  · have := wrapI_bd x.rl (m := 4) (by omega); simp only [Cbk.one]; omega
  · have := wrapI_bd b.c1 (m := 5) (by omega); simp only [Cbk.one]; omega
  · intro p hp
    simp only [Cbk.one, List.mem_map] at hp
    obtain ⟨y, hy, rfl⟩ := hp
    have := List.all_eq_true.1 h11 y hy
    simp only [Clk.ok, Bool.and_eq_true, decide_eq_true_eq] at this
    exact ⟨this.1.2, this.2⟩
theorem Ob.Ok.cb {o : Ob} (h : o.Ok) (h4 : o.q.length ≤ 4) : o.cb.ok = true := by
  have hc : (o.q.map ck).all (Clk.ok 1) = true := by
    rw [List.all_eq_true]
    intro y hy
    obtain ⟨p, hp, rfl⟩ := List.mem_map.1 hy
    have := h.q p hp
    simp only [Clk.ok, ck, Bool.and_eq_true, decide_eq_true_eq]; omega
  have := h.due; have := h.az; have := h.low; have := h.s; have := h.c; have := h.rate
  simp only [Cbk.ok, Ob.cb, stagesOk, Stg.ok, spanOk, costOk, Bool.and_eq_true, decide_eq_true_eq, List.length_singleton, List.length_map]
  exact ⟨by simp only [and_true, Nat.le_refl, true_and]; omega, hc⟩
theorem Ob.fit {o : Ob} (h : o.Ok) : o.cb.fit := by
  have := h.len
  constructor <;> simp [Ob.cb]
  omega

def reads (b : Cbk) : List Clk := b.cs.map fun y => ⟨0, y.r, y.e⟩
theorem reads_succ (b : Cbk) (k : Nat) (hk : k < b.cs.length) : (reads b).take (k + 1) = (reads b).take k ++ [⟨0, b.cs[k].r, b.cs[k].e⟩] := by
  rw [List.take_add_one, reads, List.getElem?_map, List.getElem?_eq_getElem hk]; rfl
theorem reads_all (b : Cbk) : (reads b).take b.cs.length = (b.cs.map rd).map ck := by
  have : b.cs.length = (reads b).length := by simp [reads]
  rw [this, List.take_length, reads, List.map_map]; rfl
theorem k7 (b : Cbk) (hb : b.fit) (h : b.ok = true) {x : Stg} {l : List Stg} (hx : b.ss = x :: l) : icall pr (.fn 7 [] []) [b.v] = some (b.one x).cb.v := by
  have hO := one_ok h hx
  have hlow := hO.low
  refine icall_fn fn7 rfl (by simp) (by simp) (by simp) ?_
  have hw : IntKind.wrap .i64 (wrapI x.rl 4 + 1) = wrapI x.rl 4 + 1 := wrap_id (by simp only [Cbk.one] at hlow; omega) (by simp only [Cbk.one] at hlow; omega)
  simp [g7_macadamtop_single06, g7_macadamtop_single06_c, hx, svs, k23, k36, hw]
  refine wpr_seq (wpr_oblock (loop_up pr (fun k e h => e 1 = .lbox 0 b.c ∧ e 6 = .int .i64 k ∧
      ∃ kk, e 5 = .lbox 0 [.sl [(b.one x).st.v] .exact, .int .i64 3, .int .i64 0, .int .i64 (wrapI b.c1 5), .int .i64 0, .sl (cvs ((reads b).take k)) kk, .int .i64 b.rate] ∧ OpnT h kk ∧ e 2 = .lbox 0 [.sl [] .exact, .int .i64 0, .int .i64 0, .int .i64 0, .int .i64 0, .sl [] .exact, .int .i64 0]) b.cs.length ?_ ?_ 0 _ _ (by omega) ⟨by simp [svs, hx], rfl, .exact, by simp [Cbk.one, cvs], .inl rfl, rfl⟩))
  · rintro k e h0 hk ⟨e1, e6, kk, e5, ho, e2⟩
    have hw1 : IntKind.wrap .i64 ((k : Int) + 1) = k + 1 := wrap_id (by omega) (by have := hb.2; omega)
    have htk := reads_succ b k hk
    have hlen : b.cs.length ≤ 4 := by
      simp only [Cbk.ok, Bool.and_eq_true, decide_eq_true_eq] at h; exact h.1.1.1.1.2
    have hl2 : ((reads b).take k).length = k := by simp [reads]; omega
    obtain ⟨h', ha, hn, hg, hf⟩ := app_okT (sz := 3) (bytes := 24) (es := cvs ((reads b).take k)) (new := [.agg [.int .i64 0, .int .i64 b.cs[k].r, .int .i64 b.cs[k].e]]) (k2 := .exact) ho (by simp) (cvs_cell3 _) (by simp) (by rw [cvs_len, hl2]; simp; omega)
    simp [g7_macadamtop_single06_l0, e1, e6, e5, hk, hw1, htk, e2, ha]
    refine ⟨.opn h0.n, by simp [cvs], OpnT.mk (by omega) hg⟩
  · rintro e h0 ⟨e1, e6, kk, e5, ho, e2⟩
    rw [reads_all] at e5
    simp [g7_macadamtop_single06_l0, e1, e6, e5, e2, onB, onN, results, rdRess, rdRes]
    simp [svs]

theorem stfs_cell (l) : (stfs l).all (fun v => decide (v.cells.length = 4)) = true := by
  induction l with
  | nil => rfl
  | cons x l ih => simpa [stfs] using ih
@[simp] theorem stfs_len (l) : (stfs l).length = l.length := by simp [stfs]
@[simp] theorem stfs_clean (l) : cleans (stfs l) = true := by
  induction l with
  | nil => rfl
  | cons x l ih => simpa [stfs] using ih
@[simp] theorem stfs_get (l : List (Int × Int)) (k : Nat) : (stfs l)[k]? = l[k]?.map stf := by simp [stfs]
@[simp] theorem stfs_getE (l : List (Int × Int)) (k : Nat) (h) : (stfs l)[k]'h = stf (l[k]'(by simpa using h)) := by simp [stfs]
theorem k8 (o : Ob) (h : o.Ok) : icall pr (.fn 8 [] []) [o.cb.v] = some o.rv := by
  have hlen := h.len
  refine icall_fn fn8 rfl (by simp) (by simp) (by simp) ?_
  simp [g8_macadamtop_mile06, g8_macadamtop_mile06_c, svs, k35]
  refine wpr_seq (wpr_oblock (loop_up pr (fun k e h => e 1 = .lbox 0 o.cb.c ∧ e 5 = .int .i64 k ∧
      ∃ kk, e 4 = .lbox 0 [.sl [.agg [.int .i64 o.a, .int .i64 o.z]] .exact, .int .i64 o.low, .int .i64 (o.low + 1), .int .i64 0, .int .i64 0, .int .i64 o.c, .int .i64 o.c,
        .sl [.agg [.int .i64 1, .int .i64 0, .int .i64 1]] .exact, .sl [] .exact, .sl (stfs (o.q.take k)) kk, .int .i64 o.due] ∧ OpnT h kk ∧ e 2 = .lbox 0 [.sl [] .exact, .int .i64 0, .int .i64 0, .int .i64 0, .int .i64 0, .int .i64 0, .int .i64 0, .sl [] .exact, .sl [] .exact, .sl [] .exact, .int .i64 0]) o.q.length ?_ ?_ 0 _ _ (by omega) ⟨by simp [svs], rfl, .exact, by simp [stfs], .inl rfl, rfl⟩))
  · rintro k e h0 hk ⟨e1, e5, kk, e4, ho, e2⟩
    have hw1 : IntKind.wrap .i64 ((k : Int) + 1) = k + 1 := wrap_id (by omega) (by omega)
    have htk : o.q.take (k + 1) = o.q.take k ++ [o.q[k]] := by rw [List.take_add_one, List.getElem?_eq_getElem hk]; rfl
    have hl2 : (o.q.take k).length = k := by simp; omega
    obtain ⟨h', ha, hn, hg, hf⟩ := app_okT (sz := 4) (bytes := 32) (es := stfs (o.q.take k)) (new := [stf o.q[k]]) (k2 := .exact) ho (by simp) (stfs_cell _) (by simp) (by rw [stfs_len, hl2]; simp; omega)
    have hst : stfs (o.q.take k) ++ [stf o.q[k]] = stfs (o.q.take (k + 1)) := by rw [htk]; simp only [stfs, List.map_append, List.map_cons, List.map_nil]
    simp [g8_macadamtop_mile06_l0, e1, e4, e5, hk, hw1, e2, ha]
    refine ⟨.opn h0.n, ⟨hst, rfl⟩, OpnT.mk (by omega) hg⟩
  · rintro e h0 ⟨e1, e5, kk, e4, ho, e2⟩
    simp [g8_macadamtop_mile06_l0, e1, e4, e5, e2, onB, onN, results, rdRess, rdRes]
end Av
end

section
/- Contracts: what is right at a minute, remembered in a map; sums. -/
set_option linter.unusedSimpArgs false
set_option linter.unusedVariables false
set_option maxRecDepth 8000
namespace Av
open Go (IntKind BinOp UnOp)

@[simp] theorem glob1 : pr.glob 1 = [.int .i64 (-1), .int .i64 (-1)] := rfl
@[simp] theorem glob2 : pr.glob 2 = [.int .i64 (-1), .int .i64 (-1)] := rfl
abbrev keyV (a b : Int) : AV := .agg [.int .i64 a, .int .i64 b]
def encC (S : List ((Int × Int) × Bool)) : List (AV × AV) := S.map fun q => (keyV q.1.1 q.1.2, .bool q.2)
theorem eqk_key (a b c d : Int) : eqk (some 2) (keyV a b) (keyV c d) = some (decide (a = c ∧ b = d)) := by
  simp only [eqk, aeqs, aeq1, List.length_cons, List.length_nil, and_self, if_true]
  by_cases h1 : a = c <;> by_cases h2 : b = d <;> simp [h1, h2]
theorem findk_enc (S : List ((Int × Int) × Bool)) (a b : Int) : ∃ r : Option Bool, findk 2 (keyV a b) (encC S) = some (r.map AV.bool) ∧ ∀ v, r = some v → ((a, b), v) ∈ S := by
  induction S with
  | nil => exact ⟨none, rfl, by simp⟩
  | cons q S ih =>
    obtain ⟨⟨c, d⟩, v⟩ := q
    simp only [encC, List.map_cons, findk, eqk_key]
    by_cases h : a = c ∧ b = d
    · obtain ⟨rfl, rfl⟩ := h
      simp only [and_self, decide_true]
      exact ⟨some v, rfl, fun v' hv => by cases hv; simp⟩
    · simp only [h, decide_false]
      obtain ⟨r, h1, h2⟩ := ih
      exact ⟨r, h1, fun v' hv => List.mem_cons_of_mem _ (h2 v' hv)⟩
theorem setk_enc (S : List ((Int × Int) × Bool)) (a b : Int) (v : Bool) : ∃ S', setk 2 (keyV a b) (.bool v) (encC S) = some (encC S') ∧ ∀ q ∈ S', q ∈ S ∨ q = ((a, b), v) := by
  induction S with
  | nil => exact ⟨[((a, b), v)], rfl, by simp⟩
  | cons q S ih =>
    obtain ⟨⟨c, d⟩, v'⟩ := q
    simp only [encC, List.map_cons, setk, eqk_key]
    by_cases h : a = c ∧ b = d
    · obtain ⟨rfl, rfl⟩ := h
      simp only [and_self, decide_true]
      refine ⟨((a, b), v) :: S, rfl, fun q hq => ?_⟩
      rcases List.mem_cons.1 hq with rfl | hq
      · exact .inr rfl
      · exact .inl (List.mem_cons_of_mem _ hq)
    · simp only [h, decide_false]
      obtain ⟨S', h1, h2⟩ := ih
      simp only [encC] at h1
      rw [h1]
      refine ⟨((c, d), v') :: S', rfl, fun q hq => ?_⟩
      rcases List.mem_cons.1 hq with rfl | hq
      · exact .inl (by simp)
      · exact (h2 q hq).imp (List.mem_cons_of_mem _) id

/-- all clocks are right, if the coach comes in a minute -/
def okm (Q : List (Int × Int)) (mn : Int) : Bool := Q.all fun p => decide (-p.2 ≤ p.1 - mn ∧ p.1 - mn ≤ p.2)
def QOk (Q : List (Int × Int)) : Prop := ∀ p ∈ Q, (0 ≤ p.1 ∧ p.1 ≤ 600) ∧ 0 ≤ p.2 ∧ p.2 ≤ 5
/-- what is remembered is right -/
def Mem (m : Nat) (Q : List (Int × Int)) (h : H) : Prop := m < h.n ∧ ∃ S, h.get m = some (.mp (encC S)) ∧ ∀ q ∈ S, q.1.1 = 0 → q.2 = okm Q q.1.2
theorem Mem.of {m Q} {h h' : H} (hm : Mem m Q h) (hn : h.n ≤ h'.n) (hg : h'.get m = h.get m) : Mem m Q h' :=
  ⟨by have := hm.1; omega, by rw [hg]; exact hm.2⟩
/-- an opened book -/
abbrev obc (o : Ob) (Q : List (Int × Int)) (kc : SK) (m : Nat) (ts : AV) : List AV := [.sl (svs [o.st]) .shut, .int .i64 3, .int .i64 0, .int .i64 o.c, .int .i64 0, .sl (cvs (Q.map ck)) kc, .int .i64 o.rate, .mp m, ts]
theorem l92_0 (o : Ob) (Q : List (Int × Int)) (hQ : QOk Q) (hl : Q.length ≤ 5) (kc : SK) (m : Nat) (ts : AV) (mn : Int) (hmn : 0 ≤ mn ∧ mn ≤ 1000) (e0 : Env) (h : H)
    (q2 : e0 2 = .lbox 0 (obc o Q kc m ts)) (q3 : e0 3 = .lbox 0 [.int .i64 0, .int .i64 mn]) (q26 : e0 26 = .sl (cvs (Q.map ck)) kc) (q27 : e0 27 = .int .i64 Q.length) (q28 : e0 28 = .int .i64 0) (q7 : e0 7 = .bool true) :
    wpr (den pr (.loop g92_claim_book_right_l0) e0 h) fun o e' h' => o = .exit 0 ∧ h' = h ∧ e' 7 = .bool (okm Q mn) ∧ e' 2 = e0 2 ∧ e' 3 = e0 3 := by
  refine loop_up pr (fun k e h' => h' = h ∧ e 2 = e0 2 ∧ e 3 = e0 3 ∧ e 26 = .sl (cvs (Q.map ck)) kc ∧ e 27 = .int .i64 Q.length ∧ e 28 = .int .i64 k ∧ e 7 = .bool (okm (Q.take k) mn)) Q.length ?_ ?_ 0 _ _ (by omega) ⟨rfl, rfl, rfl, q26, q27, q28, by simpa [okm] using q7⟩
  · rintro k e h' hk ⟨rfl, p2, p3, p26, p27, p28, p7⟩
    rw [q2] at p2; rw [q3] at p3
    have hw : IntKind.wrap .i64 ((k : Int) + 1) = k + 1 := wrap_id (by omega) (by omega)
    have hb := hQ Q[k] (List.getElem_mem _)
    have htk := all_take Q (fun p => decide (-p.2 ≤ p.1 - mn ∧ p.1 - mn ≤ p.2)) k hk
    have htk2 : okm (Q.take (k + 1)) mn = (okm (Q.take k) mn && decide (-(Q[k]).2 ≤ (Q[k]).1 - mn ∧ (Q[k]).1 - mn ≤ (Q[k]).2)) := htk
    have hw2 : IntKind.wrap .i64 ((Q[k]).1 - mn) = (Q[k]).1 - mn := wrap_id (by omega) (by omega)
    have hw3 : IntKind.wrap .i64 (- (Q[k]).2) = - (Q[k]).2 := wrap_id (by omega) (by omega)
    cases hok : okm (Q.take k) mn with
    | false =>
      rw [hok] at p7 htk2
      simp [g92_claim_book_right_l0, p2, p3, p26, p27, p28, p7, hk, hw, htk2, q2, q3]
    | true =>
      rw [hok] at p7 htk2
      simp [g92_claim_book_right_l0, p2, p3, p26, p27, p28, p7, hk, hw, htk2, q2, q3, k26, hw2, hw3]
  · rintro e h' ⟨rfl, p2, p3, p26, p27, p28, p7⟩
    rw [List.take_length] at p7
    simp [g92_claim_book_right_l0, p26, p27, p28, p7, p2, p3]
theorem k92 (o : Ob) (Q : List (Int × Int)) (hQ : QOk Q) (hl : Q.length ≤ 5) (kc : SK) (m : Nat) (ts : AV) (hts : ts.flat = true) (mn : Int) (hmn : 0 ≤ mn ∧ mn ≤ 1000) (h : H) (hm : Mem m Q h) :
    ∃ h', dcall pr (.fn 92 [.agg (obc o Q kc m ts)] []) [keyV 0 mn] h = some (.bool (okm Q mn), h') ∧ Mem m Q h' ∧ h'.n = h.n ∧ ∀ j, j ≠ m → h'.get j = h.get j := by
  suffices hh : ∃ v h', dcall pr (.fn 92 [.agg (obc o Q kc m ts)] []) [keyV 0 mn] h = some (v, h') ∧ (v = .bool (okm Q mn) ∧ Mem m Q h' ∧ h'.n = h.n ∧ ∀ j, j ≠ m → h'.get j = h.get j) by
    obtain ⟨v, h', h1, rfl, h2⟩ := hh; exact ⟨h', h1, h2⟩
  obtain ⟨hmn', S, hS, hSok⟩ := hm
  obtain ⟨r, hr, hrS⟩ := findk_enc S 0 mn
  have hne : ¬ ((0 : Int) = -1 ∧ mn = -1) := by omega
  have hqk := eqk_key 0 mn (-1) (-1)
  obtain ⟨S', hs1, hs2⟩ := setk_enc S 0 mn (okm Q mn)
  refine dcall_of fn92 rfl ?_
  cases r with
  | none =>
    simp only [Option.map_none] at hr
    simp [g92_claim_book_right, g92_claim_book_right_c, hS, hr, keyLen, hts]
    refine wpr_seq (wpr_oblock (wpr_mono (l92_0 o Q hQ hl kc m ts mn hmn _ _ rfl rfl rfl (by simp) rfl rfl) ?_))
    rintro _ e h' ⟨rfl, rfl, p7, p2, p3⟩
    simp at p2 p3
    simp [p2, p3, p7, onB, onN, results, rdRess, rdRes, hS, hs1, keyLen]
    refine ⟨⟨by simpa using hmn', S', by simp, fun q hq h0 => ?_⟩, fun j hj => by simp [hj]⟩
    rcases hs2 q hq with h1 | rfl
    · exact hSok q h1 h0
    · rfl
  | some v =>
    simp only [Option.map_some] at hr
    have hv := hSok _ (hrS v rfl) rfl
    simp only at hv
    simp [g92_claim_book_right, g92_claim_book_right_c, hS, hr, keyLen, hqk, results, rdRess, rdRes, hv, hts]
    exact ⟨hmn', S, hS, hSok⟩
end Av
end

section
/- Sums; a range over what a function yields. -/
set_option linter.unusedSimpArgs false
set_option linter.unusedVariables false
set_option maxRecDepth 8000
namespace Av
open Go (IntKind BinOp UnOp)

def sumTo (l : List Int) : Nat → Int
  | 0 => 0
  | k + 1 => sumTo l k + l.getD k 0
theorem sumTo_sum (l : List Int) : sumTo l l.length = l.sum := by
  have : ∀ k, k ≤ l.length → sumTo l k = (l.take k).sum := by
    intro k
    induction k with
    | zero => intro _; simp [sumTo]
    | succ k ih =>
      intro hk
      have h1 : l.take (k + 1) = l.take k ++ [l[k]] := by rw [List.take_add_one, List.getElem?_eq_getElem (by omega)]; rfl
      rw [sumTo, ih (by omega), h1, List.sum_append, List.getD_eq_getElem?_getD, List.getElem?_eq_getElem (by omega)]
      simp
  rw [this _ (Nat.le_refl _)]; simp
theorem sumTo_bd {l : List Int} (h : ∀ x ∈ l, 0 ≤ x ∧ x ≤ 1000) (k : Nat) : 0 ≤ sumTo l k ∧ sumTo l k ≤ 1000 * (k : Int) := by
  induction k with
  | zero => simp [sumTo]
  | succ k ih =>
    simp only [sumTo]
    have : 0 ≤ l.getD k 0 ∧ l.getD k 0 ≤ 1000 := by
      rw [List.getD_eq_getElem?_getD]
      cases hk : l[k]? with
      | none => simp
      | some x => exact h x (List.mem_of_getElem? hk)
    constructor <;> push_cast <;> omega
theorem k89 (l : List Int) (hl : l.length ≤ 1000) (h : ∀ x ∈ l, 0 ≤ x ∧ x ≤ 1000) : icall pr (.fn 89 [] []) [.sl (iv l) .shut] = some (.int .i64 l.sum) := by
  refine icall_fn fn89 rfl rfl (by simp) rfl ?_
  simp [g89_claim_sum, g89_claim_sum_c]
  refine wpr_seq (wpr_oblock (loop_up pr (fun k e h => e 6 = .sl (iv l) .shut ∧ e 7 = .int .i64 l.length ∧ e 8 = .int .i64 k ∧ e 3 = .int .i64 (sumTo l k)) l.length ?_ ?_ 0 _ _ (by omega) ⟨rfl, rfl, rfl, rfl⟩))
  · rintro k e h0 hk ⟨e6, e7, e8, e3⟩
    have hw : IntKind.wrap .i64 ((k : Int) + 1) = k + 1 := wrap_id (by omega) (by omega)
    have hb := sumTo_bd h k
    have hb2 := sumTo_bd h (k + 1)
    have hs : sumTo l (k + 1) = sumTo l k + l[k] := by rw [sumTo, List.getD_eq_getElem?_getD, List.getElem?_eq_getElem hk]; rfl
    have hw2 : IntKind.wrap .i64 (sumTo l k + l[k]) = sumTo l k + l[k] := by rw [← hs]; exact wrap_id (by push_cast at hb2; omega) (by push_cast at hb2; omega)
    simp [g89_claim_sum_l0, e6, e7, e8, e3, hk, hw, hw2, hs]
  · rintro e h0 ⟨e6, e7, e8, e3⟩
    simp [g89_claim_sum_l0, e6, e7, e8, e3, onB, onN, results, rdRess, rdRes, sumTo_sum]
theorem k118 (l : List Int) (hl : l.length ≤ 1000) (h : ∀ x ∈ l, 0 ≤ x ∧ x ≤ 1000) : icall pr (.fn 118 [] []) [.sl (iv l) .shut] = some (.int .i64 l.sum) := by
  refine icall_fn fn118 rfl rfl (by simp) rfl ?_
  simp [g118_rut_sum, g118_rut_sum_c]
  refine wpr_seq (wpr_oblock (loop_up pr (fun k e h => e 6 = .sl (iv l) .shut ∧ e 7 = .int .i64 l.length ∧ e 8 = .int .i64 k ∧ e 3 = .int .i64 (sumTo l k)) l.length ?_ ?_ 0 _ _ (by omega) ⟨rfl, rfl, rfl, rfl⟩))
  · rintro k e h0 hk ⟨e6, e7, e8, e3⟩
    have hw : IntKind.wrap .i64 ((k : Int) + 1) = k + 1 := wrap_id (by omega) (by omega)
    have hb := sumTo_bd h k
    have hb2 := sumTo_bd h (k + 1)
    have hs : sumTo l (k + 1) = sumTo l k + l[k] := by rw [sumTo, List.getD_eq_getElem?_getD, List.getElem?_eq_getElem hk]; rfl
    have hw2 : IntKind.wrap .i64 (sumTo l k + l[k]) = sumTo l k + l[k] := by rw [← hs]; exact wrap_id (by push_cast at hb2; omega) (by push_cast at hb2; omega)
    simp [g118_rut_sum_l0, e6, e7, e8, e3, hk, hw, hw2, hs]
  · rintro e h0 ⟨e6, e7, e8, e3⟩
    simp [g118_rut_sum_l0, e6, e7, e8, e3, onB, onN, results, rdRess, rdRes, sumTo_sum]

/-- A function yields the values of a list, one after the other; whoever takes them has U (of what was taken) and changes what is his own (Ks, and slices that grow); the function changes Ms. -/
def Iter (F : AV) (n0 : Nat) (l : List AV) (M : H → Prop) (Ms : Nat → Prop) : Prop :=
  ∀ (U : List AV → H → Prop) (Ks : Nat → Prop) (yv : AV), evt yv = some yv → yv.flat = true → (∀ j, Ks j → ¬ Ms j) → (∀ j, Ks j → j < n0) →
    (∀ d h h', (∀ j, j < h.n → ¬ Ms j → h'.get j = h.get j) → h.n ≤ h'.n → U d h → U d h') →
    (∀ d h v, v ∈ l → d.length < l.length → n0 ≤ h.n → U d h → ∃ h', dcall pr yv [v] h = some (.bool true, h') ∧ U (d ++ [v]) h' ∧ h.n ≤ h'.n ∧ ∀ j, j < h.n → ¬ Ks j → h.get j ≠ some .tok → h'.get j = h.get j) →
    ∀ h, n0 ≤ h.n → U [] h → M h → ∃ h' w, dcall pr F [yv] h = some (w, h') ∧ U l h' ∧ M h' ∧ h.n ≤ h'.n ∧
      ∀ j, j < h.n → ¬ Ks j → ¬ Ms j → h.get j ≠ some .tok → h'.get j = h.get j

theorem range_iter {F : AV} {l : List AV} {M : H → Prop} {Ms : Nat → Prop} {f : Opd} {p0 : Nat} {asn body : ACode} {e : Env} {h : H} (U : List AV → H → Prop) (Ks : Nat → Prop)
    (hI : Iter F (h.n + 1) l M Ms) (hf : ev pr e f = some F) (hKM : ∀ j, Ks j → ¬ Ms j) (hK : ∀ j, Ks j → j < h.n) (hMs : ∀ j, Ms j → j < h.n)
    (hMst : ∀ h1 h2, (∀ j, Ms j → h2.get j = h1.get j) → h1.n ≤ h2.n → M h1 → M h2)
    (hU : ∀ d h1 h2, (∀ j, j < h1.n → ¬ Ms j → j ≠ h.n → h2.get j = h1.get j) → h1.n ≤ h2.n → U d h1 → U d h2)
    (hb : ∀ v, v ∈ l → ∃ e1, (∀ h', den pr asn ((snap e).set p0 v) h' = some (.normal, e1, h')) ∧
      ∀ d h', d.length < l.length → h.n + 1 ≤ h'.n → U d h' → wpr (den pr body e1 h') fun o e2 h2 => o = .normal ∧ h'.n ≤ h2.n ∧ U (d ++ [v]) h2 ∧ ∀ j, j < h'.n → ¬ Ks j → h'.get j ≠ some .tok → h2.get j = h'.get j)
    (hs : U [] h) (hM : M h) :
    wpr (den pr (.rangeF f [p0] asn body) e h) fun o e' h' => o = .normal ∧ e' = e ∧ U l h' ∧ M h' ∧ h.n + 1 ≤ h'.n ∧
      ∀ j, j < h.n → ¬ Ks j → ¬ Ms j → h.get j ≠ some .tok → h'.get j = h.get j := by
  let lp : Nat → Option ACode → AObj := fun n p => .loop ⟨snap e, [p0], asn, body, n, p⟩
  let U' : List AV → H → Prop := fun d h' => U d h' ∧ h'.get h.n = some (lp 0 none) ∧ h.n + 1 ≤ h'.n
  have hMl : ¬ Ms h.n := fun hm => by have := hMs _ hm; omega
  have hKl : ¬ Ks h.n := fun hm => by have := hK _ hm; omega
  obtain ⟨h2, w, hc, hU2, hM2, hn2, hfr⟩ := hI U' (fun j => Ks j ∨ j = h.n) (.yld h.n) rfl rfl (fun j hj hm => by
      rcases hj with hj | rfl
      · exact hKM j hj hm
      · exact hMl hm) (fun j hj => by
      rcases hj with hj | rfl
      · have := hK j hj; omega
      · omega) (fun d h1 h2 hg hn hu => ⟨hU d h1 h2 (fun j hj hm _ => hg j hj hm) hn hu.1, by rw [hg _ (by have := hu.2.2; omega) hMl]; exact hu.2.1, by have := hu.2.2; omega⟩)
    (fun d h1 v hv hd hn1 hu => by
      obtain ⟨hu1, hu2, hu3⟩ := hu
      obtain ⟨e1, ha, hb1⟩ := hb v hv
      have hub : U d (h1.put h.n (lp 1 none)) := hU d h1 _ (fun j hj hm hne => by simp [hne]) (by simp) hu1
      obtain ⟨o, e2, h2, a2, rfl, a4, a5, a6⟩ := hb1 d (h1.put h.n (lp 1 none)) hd (by simpa using hu3) hub
      have hgl : h2.get h.n = some (lp 1 none) := by rw [a6 _ (by simp; omega) hKl (by simp [lp])]; simp
      simp at a4
      refine ⟨h2.put h.n (lp 0 none), ?_, ⟨hU _ h2 _ (fun j hj hm hne => by simp [hne]) (by simp) a5, by simp, by simp; omega⟩, by simp; omega, fun j hj hk ht => ?_⟩
      · rw [dcall_yld, hu2]
        simp only [lp, List.length_singleton, and_self, if_true, setAll, ha, hu2]
        simp only [lp] at a2 hgl
        rw [a2]; simp only [hgl]
      · have hne : j ≠ h.n := fun hh => hk (.inr hh)
        simp [hne]
        rw [a6 j (by simpa using hj) (fun hh => hk (.inl hh)) (by simpa [hne] using ht)]
        simp [hne])
    (h.new (lp 0 none)) (by simp) ⟨hU [] h _ (fun j hj hm hne => by simp [hne]) (by simp) hs, by simp, by simp⟩
    (hMst h _ (fun j hj => by simp; intro hh; have := hMs j hj; omega) (by simp) hM)
  rw [den_rangeF, hf]
  simp only [lp] at hc hU2
  simp only [hc]
  obtain ⟨i1, i2, i3⟩ := hU2
  simp only [i2, lp]
  refine ⟨.normal, e, _, rfl, rfl, rfl, hU _ h2 _ (fun j hj hm hne => by simp [hne]) (by simp) i1, hMst h2 _ (fun j hj => by simp; intro hh; have := hMs j hj; omega) (by simp) hM2, by simpa using i3, fun j hj hk hm ht => ?_⟩
  have hne : j ≠ h.n := by omega
  simp [hne]
  rw [hfr j (by simp; omega) (fun hh => by rcases hh with hh | hh; exact hk hh; exact hne hh) hm (by simpa [hne] using ht)]
  simp [hne]
theorem flat_le {f : Nat → List AV} : ∀ {k n : Nat}, k ≤ n → ((List.range k).flatMap f).length ≤ ((List.range n).flatMap f).length := by
  intro k n h
  induction h with
  | refl => exact Nat.le_refl _
  | step _ ih => rw [List.range_succ, List.flatMap_append, List.length_append]; omega
theorem flat_le1 {f : Nat → List AV} {k n : Nat} (h : k < n) : ((List.range k).flatMap f).length + (f k).length ≤ ((List.range n).flatMap f).length := by
  have := flat_le (f := f) (k := k + 1) (n := n) h
  rw [List.range_succ, List.flatMap_append, List.length_append] at this
  simpa using this
end Av
end

section
/- All truths of a claim's book of one stage. -/
set_option linter.unusedSimpArgs false
set_option linter.unusedVariables false
set_option maxRecDepth 8000
namespace Av
open Go (IntKind BinOp UnOp)

/-- weather, minute, what the road costs -/
structure Tru where
  w : Int
  mn : Int
  r : Int
abbrev Tru.c (t : Tru) : List AV := [.int .i64 t.w, .int .i64 t.mn, .int .i64 0, .int .i64 0, .int .i64 t.r, .int .i64 0, .int .i64 0]
abbrev Tru.v (t : Tru) : AV := .agg t.c
/-- what the weather costs -/
def Ob.cost (o : Ob) (w : Nat) : Int := if w = 1 then o.c else 0
def Ob.mn (o : Ob) (w d k : Nat) : Int := o.a + d + (o.low + k) + o.cost w
def Ob.tr (o : Ob) (w d k : Nat) : Tru := ⟨w, o.mn w d k, o.low + k⟩
@[simp] theorem tr_w (o : Ob) (w d k) : (o.tr w d k).w = w := rfl
@[simp] theorem tr_mn (o : Ob) (w d k) : (o.tr w d k).mn = o.mn w d k := rfl
@[simp] theorem tr_r (o : Ob) (w d k) : (o.tr w d k).r = o.low + k := rfl
def Ob.stops (o : Ob) : Nat := (o.sh - o.sl + 1).toNat
def Ob.slows (o : Ob) : Nat := (o.z - o.a + 1).toNat
def tl1 (o : Ob) (Q : List (Int × Int)) (w d k : Nat) : List AV := if okm Q (o.mn w d k) then List.replicate o.stops (o.tr w d k).v else []
def tl2 (o : Ob) (Q : List (Int × Int)) (w d : Nat) : List AV := (List.range 2).flatMap (tl1 o Q w d)
def tl3 (o : Ob) (Q : List (Int × Int)) (w : Nat) : List AV := (List.range o.slows).flatMap (tl2 o Q w)
def tl (o : Ob) (Q : List (Int × Int)) : List AV := (List.range 2).flatMap (tl3 o Q)
theorem Ob.Ok.mn {o : Ob} (h : o.Ok) {w d k : Nat} (hd : d < o.slows) (hk : k < 2) : 1 ≤ o.mn w d k ∧ o.mn w d k ≤ 100 := by
  have := h.az; have := h.low; have := h.c
  simp only [Ob.slows] at hd
  simp only [Ob.mn, Ob.cost]
  split <;> omega

abbrev driveV (bc : List AV) (yv : AV) (c : Nat) : AV := .fn 93 [] [.cptr bc, .cptr [yv], .cptr [.fn 92 [.agg bc] []], .ptr c 0]

theorem k94 : icall pr (.fn 94 [] []) [] = some (.agg [.int .i64 0, .int .i64 0, .int .i64 0]) := by
  refine icall_fn fn94 rfl rfl rfl rfl ?_
  simp [g94_claim_waiting, g94_claim_waiting_c, results, rdRess, rdRes]
theorem k99 : icall pr (.fn 99 [] []) [] = some (.agg [.int .i64 0, .int .i64 0, .int .i64 0]) := by
  refine icall_fn fn99 rfl rfl rfl rfl ?_
  simp [g99_rut_nothing, g99_rut_nothing_c, results, rdRess, rdRes]
theorem eqk3 (a b c a' b' c' : Int) : eqk (some 3) (.agg [.int .i64 a, .int .i64 b, .int .i64 c]) (.agg [.int .i64 a', .int .i64 b', .int .i64 c']) = some (decide (a = a' ∧ b = b' ∧ c = c')) := by
  have := eqk_iv (n := 3) [a, b, c] [a', b', c'] rfl rfl
  simpa using this
section
variable {o : Ob} (ho : o.Ok) {Q : List (Int × Int)} (hQ : QOk Q) (hl : Q.length ≤ 5) {kc : SK} {m : Nat} {ts : AV} (hts : ts.flat = true) {yv : AV} (hyv : evt yv = some yv) {c : Nat} {G : List AV → H → Prop} {B : Nat}
variable (hG1 : ∀ d h, G d h → Mem m Q h ∧ h.get c = some (.cells [driveV (obc o Q kc m ts) yv c]) ∧ c < h.n)
variable (hGm : ∀ d h h', G d h → Mem m Q h' → h'.n = h.n → (∀ j, j ≠ m → h'.get j = h.get j) → G d h')
variable (hGy : ∀ d h w s k, w < 2 → s < o.slows → k < 2 → okm Q (o.mn w s k) = true → d.length < B → G d h → ∃ h', dcall pr yv [(o.tr w s k).v] h = some (.bool true, h') ∧ G (d ++ [(o.tr w s k).v]) h')
include ho hQ hl hts hyv hG1 hGm hGy

theorem drive1 {d : List AV} {h : H} {w s k : Nat} (hw : w < 2) (hs : s < o.slows) (hk : k < 2) (hok : okm Q (o.mn w s k) = true) (hdB : d.length < B) (hG : G d h) (fr : Int) :
    ∃ h', dcall pr (driveV (obc o Q kc m ts) yv c) [(o.tr w s k).v, .int .i64 1, .int .i64 fr] h = some (.bool true, h') ∧ G (d ++ [(o.tr w s k).v]) h' := by
  suffices hh : ∃ v h', dcall pr (driveV (obc o Q kc m ts) yv c) [(o.tr w s k).v, .int .i64 1, .int .i64 fr] h = some (v, h') ∧ (v = .bool true ∧ G (d ++ [(o.tr w s k).v]) h') by
    obtain ⟨v, h', h1, rfl, h2⟩ := hh; exact ⟨h', h1, h2⟩
  obtain ⟨h', hy, hg⟩ := hGy d h w s k hw hs hk hok hdB hG
  have hmn := ho.mn (w := w) hs hk
  have h0 : ¬ o.mn w s k = 0 := by omega
  have hy' := hy
  simp only [Tru.v, Tru.c, tr_w, tr_mn, tr_r] at hy'
  refine dcall_of fn93 rfl ?_
  simp [g93_claim_book_whole_1_1, g93_claim_book_whole_1_1_c, k94, eqk3, h0, hyv, hy', results, rdRess, rdRes, svs]
  exact hg

/-- the stop -/
theorem l93_0 {d : List AV} {w s k : Nat} (hdB : d.length + o.stops ≤ B) (hw : w < 2) (hs : s < o.slows) (hk : k < 2) (hok : okm Q (o.mn w s k) = true) (e : Env) (h : H)
    (e1 : e 1 = .int .i64 0) (e6 : e 6 = .ptr c 0) (e7 : e 7 = .lbox 0 (o.tr w s k).c) (e11 : e 11 = .lbox 0 o.st.v.cells) (e14 : e 14 = .int .i64 (o.mn w s k)) (e15 : e 15 = .int .i64 o.sl) (hG : G d h) :
    wpr (den pr (.loop g93_claim_book_whole_1_1_l0) e h) fun oo e' h' => oo = .exit 4 ∧ G (d ++ List.replicate o.stops (o.tr w s k).v) h' ∧
      e' 1 = e 1 ∧ e' 2 = e 2 ∧ e' 3 = e 3 ∧ e' 5 = e 5 ∧ e' 6 = e 6 ∧ e' 7 = e 7 ∧ e' 11 = e 11 ∧ e' 12 = e 12 ∧ e' 13 = e 13 ∧ e' 44 = e 44 ∧ e' 45 = e 45 := by
  have hS := ho.s
  have hmn := ho.mn (w := w) hs hk
  refine loop_up pr (fun j e' h' => G (d ++ List.replicate j (o.tr w s k).v) h' ∧ e' 15 = .int .i64 (o.sl + j) ∧ e' 14 = e 14 ∧ e' 1 = e 1 ∧ e' 2 = e 2 ∧ e' 3 = e 3 ∧ e' 5 = e 5 ∧ e' 6 = e 6 ∧ e' 7 = e 7 ∧ e' 11 = e 11 ∧ e' 12 = e 12 ∧ e' 13 = e 13 ∧ e' 44 = e 44 ∧ e' 45 = e 45) o.stops ?_ ?_ 0 _ _ (by omega)
    ⟨by simpa using hG, by simpa using e15, rfl, rfl, rfl, rfl, rfl, rfl, rfl, rfl, rfl, rfl, rfl, rfl⟩
  · rintro j e' h' hj ⟨hg, p15, p14, p1, p2, p3, p5, p6, p7, p11, p12, p13, p44, p45⟩
    rw [e1] at p1; rw [e6] at p6; rw [e7] at p7; rw [e11] at p11; rw [e14] at p14
    obtain ⟨g1, g2, g3⟩ := hG1 _ _ hg
    simp only [Ob.stops] at hj
    have hle : o.sl + j ≤ o.sh := by omega
    have hw1 : IntKind.wrap .i64 (o.sl + j + 1) = o.sl + j + 1 := wrap_id (by omega) (by omega)
    have hw2 : IntKind.wrap .i64 (o.mn w s k + (o.sl + j)) = o.mn w s k + (o.sl + j) := wrap_id (by omega) (by omega)
    obtain ⟨h2, hc, hg2⟩ := drive1 ho hQ hl hts hyv hG1 hGm hGy hw hs hk hok (by simp only [List.length_append, List.length_replicate]; simp only [Ob.stops] at hdB; omega) hg (o.mn w s k + (o.sl + j))
    rw [List.append_assoc, ← List.replicate_succ'] at hg2
    simp only [Tru.v, Tru.c, tr_w, tr_mn, tr_r] at hc
    simp [g93_claim_book_whole_1_1_l0, p15, p14, p1, p6, p7, p11, g2, g3, hle, hw1, hw2, hc, e1, e6, e7, e11, e14, p2, p3, p5, p12, p13, p44, p45]
    exact ⟨hg2, by omega⟩
  · rintro e' h' ⟨hg, p15, p14, p1, p2, p3, p5, p6, p7, p11, p12, p13, p44, p45⟩
    rw [e11] at p11
    have hle : ¬ o.sl + (o.stops : Nat) ≤ o.sh := by simp only [Ob.stops]; omega
    simp [g93_claim_book_whole_1_1_l0, p15, p11, hle, hg, p14, p1, p2, p3, p5, p6, p7, p12, p13, p44, p45, e11]

/-- the rough road -/
theorem l93_1 {d : List AV} {w s : Nat} (hdB : d.length + (tl2 o Q w s).length ≤ B) (hw : w < 2) (hs : s < o.slows) (x y : Int) (e : Env) (h : H)
    (e1 : e 1 = .int .i64 0) (e2 : e 2 = .int .i64 0) (e3 : e 3 = .cptr (obc o Q kc m ts)) (e5 : e 5 = .cptr [.fn 92 [.agg (obc o Q kc m ts)] []]) (e6 : e 6 = .ptr c 0) (e7 : e 7 = .lbox 0 (Tru.c ⟨w, x, y⟩)) (e11 : e 11 = .lbox 0 o.st.v.cells) (e12 : e 12 = .int .i64 s) (e13 : e 13 = .int .i64 o.low) (hG : G d h) :
    wpr (den pr (.loop g93_claim_book_whole_1_1_l1) e h) fun oo e' h' => oo = .exit 2 ∧ G (d ++ tl2 o Q w s) h' ∧
      e' 1 = e 1 ∧ e' 2 = e 2 ∧ e' 3 = e 3 ∧ e' 5 = e 5 ∧ e' 6 = e 6 ∧ (∃ x y, e' 7 = .lbox 0 (Tru.c ⟨w, x, y⟩)) ∧ e' 11 = e 11 ∧ e' 44 = e 44 ∧ e' 45 = e 45 := by
  have hL := ho.low
  have hA := ho.az
  have hC := ho.c
  refine loop_up pr (fun k e' h' => G (d ++ (List.range k).flatMap (tl1 o Q w s)) h' ∧ e' 13 = .int .i64 (o.low + k) ∧ e' 1 = e 1 ∧ e' 2 = e 2 ∧ e' 3 = e 3 ∧ e' 5 = e 5 ∧ e' 6 = e 6 ∧ (∃ x y, e' 7 = .lbox 0 (Tru.c ⟨w, x, y⟩)) ∧ e' 11 = e 11 ∧ e' 12 = e 12 ∧ e' 44 = e 44 ∧ e' 45 = e 45) 2 ?_ ?_ 0 _ _ (by omega)
    ⟨by simpa using hG, by simpa using e13, rfl, rfl, rfl, rfl, rfl, ⟨x, y, e7⟩, rfl, rfl, rfl, rfl⟩
  · rintro k e' h' hk ⟨hg, p13, p1, p2, p3, p5, p6, ⟨x', y', p7⟩, p11, p12, p44, p45⟩
    have q1 := p1; have q2 := p2; have q3 := p3; have q5 := p5; have q6 := p6; have q11 := p11
    rw [e1] at p1; rw [e2] at p2; rw [e3] at p3; rw [e5] at p5; rw [e6] at p6; rw [e11] at p11; rw [e12] at p12
    obtain ⟨g1, g2, g3⟩ := hG1 _ _ hg
    have hmn := ho.mn (w := w) hs hk
    have hle : o.low + (k : Int) ≤ o.low + 1 := by omega
    have hw1 : IntKind.wrap .i64 (o.low + k + 1) = o.low + k + 1 := wrap_id (by omega) (by omega)
    have hss : (s : Int) ≤ 2 := by simp only [Ob.slows] at hs; omega
    have hcost : 0 ≤ o.cost w ∧ o.cost w ≤ 4 := by simp only [Ob.cost]; split <;> omega
    have hsum := k89 [0, o.a, s, o.low + k, o.cost w] (by simp) (by
      intro z hz
      simp at hz
      rcases hz with rfl | rfl | rfl | rfl | rfl <;> omega)
    have hmn2 : ([0, o.a, (s : Int), o.low + k, o.cost w]).sum = o.mn w s k := by simp [Ob.mn]; omega
    rw [hmn2] at hsum
    simp only [iv_cons, iv_nil] at hsum
    obtain ⟨h2, hr, m1, m2, m3⟩ := k92 o Q hQ hl kc m ts hts (o.mn w s k) (by omega) h' g1
    have hg2 := hGm _ _ _ hg m1 m2 m3
    have hsucc : (List.range (k + 1)).flatMap (tl1 o Q w s) = (List.range k).flatMap (tl1 o Q w s) ++ tl1 o Q w s k := by simp [List.range_succ]
    have hcw : ∀ (l : List AV), part (List.drop w (.int .i64 0 :: .int .i64 o.c :: .int .i64 0 :: l)) 0 1 false = some (.int .i64 (o.cost w)) := by
      intro l
      match w, hw with
      | 0, _ => simp [Ob.cost]
      | 1, _ => simp [Ob.cost]
    have hw3 : (w : Int) < 3 := by omega
    have hw9 : w ≤ 7 := by omega
    cases hok : okm Q (o.mn w s k) with
    | false =>
      rw [hok] at hr
      have ht : tl1 o Q w s k = [] := by simp [tl1, hok]
      rw [ht, List.append_nil] at hsucc
      simp [g93_claim_book_whole_1_1_l1, p13, p1, p2, p3, p5, p6, p7, p11, p12, hle, hw1, hcw, hw3, hw9, hsum, hr, hsucc, e1, e2, e3, e5, e6, e11, e12, p44, p45]
      exact ⟨hg2, by omega⟩
    | true =>
      rw [hok] at hr
      have ht : tl1 o Q w s k = List.replicate o.stops (o.tr w s k).v := by simp [tl1, hok]
      rw [ht] at hsucc
      have hfl := flat_le1 (f := tl1 o Q w s) hk
      rw [ht, List.length_replicate] at hfl
      simp only [tl2] at hdB
      simp [g93_claim_book_whole_1_1_l1, p13, p1, p2, p3, p5, p6, p7, p11, p12, hle, hw1, hcw, hw3, hw9, hsum, hr, e1, e2, e3, e5, e6, e11, e12, p44, p45]
      refine wpr_seq (wpr_oblock (wpr_oblock (wpr_mono (l93_0 ho hQ hl hts hyv hG1 hGm hGy (by simp only [List.length_append]; omega) hw hs hk hok _ _ (by simp [p1]) (by simp [p6]) (by simp) (by simp [p11]) (by simp) (by simp) hg2) ?_)))
      rintro _ e2' h3 ⟨rfl, hg3, r1, r2, r3, r5, r6, r7, r11, r12, r13, r44, r45⟩
      rw [List.append_assoc, ← hsucc] at hg3
      simp at r1 r2 r3 r5 r6 r7 r11 r12 r13 r44 r45
      simp [onB, onN, r1, r2, r3, r5, r6, r7, r11, r12, r13, r44, r45, hw1, p13, p1, p2, p3, p5, p6, p11, p12, p44, p45]
      exact ⟨hg3, by omega⟩
  · rintro e' h' ⟨hg, p13, p1, p2, p3, p5, p6, hp7, p11, p12, p44, p45⟩
    rw [e11] at p11
    have hle : ¬ o.low + ((2 : Nat) : Int) ≤ o.low + 1 := by omega
    simp [g93_claim_book_whole_1_1_l1, p13, p11, hle]
    exact ⟨hg, p1, p2, p3, p5, p6, hp7, e11.symm, p44, p45⟩

/-- the drive -/
theorem l93_2 {d : List AV} {w : Nat} (hdB : d.length + (tl3 o Q w).length ≤ B) (hw : w < 2) (e : Env) (h : H)
    (e1 : e 1 = .int .i64 0) (e2 : e 2 = .int .i64 0) (e3 : e 3 = .cptr (obc o Q kc m ts)) (e5 : e 5 = .cptr [.fn 92 [.agg (obc o Q kc m ts)] []]) (e6 : e 6 = .ptr c 0) (e7 : e 7 = .lbox 0 (Tru.c ⟨w, 0, 0⟩)) (e11 : e 11 = .lbox 0 o.st.v.cells) (e44 : e 44 = .int .i64 (o.slows : Nat)) (e45 : e 45 = .int .i64 0) (hG : G d h) :
    wpr (den pr (.loop g93_claim_book_whole_1_1_l2) e h) fun oo e' h' => oo = .exit 0 ∧ G (d ++ tl3 o Q w) h' := by
  have hA := ho.az
  have hS : (o.slows : Int) ≤ 3 := by simp only [Ob.slows]; omega
  refine loop_up pr (fun s e' h' => G (d ++ (List.range s).flatMap (tl2 o Q w)) h' ∧ e' 45 = .int .i64 s ∧ e' 1 = e 1 ∧ e' 2 = e 2 ∧ e' 3 = e 3 ∧ e' 5 = e 5 ∧ e' 6 = e 6 ∧ (∃ x y, e' 7 = .lbox 0 (Tru.c ⟨w, x, y⟩)) ∧ e' 11 = e 11 ∧ e' 44 = e 44) o.slows ?_ ?_ 0 _ _ (by omega)
    ⟨by simpa using hG, e45, rfl, rfl, rfl, rfl, rfl, ⟨0, 0, e7⟩, rfl, rfl⟩
  · rintro s e' h' hs ⟨hg, p45, p1, p2, p3, p5, p6, ⟨x', y', p7⟩, p11, p44⟩
    rw [e1] at p1; rw [e2] at p2; rw [e3] at p3; rw [e5] at p5; rw [e6] at p6; rw [e11] at p11; rw [e44] at p44
    have hlt : (s : Int) < o.slows := by omega
    have hw1 : IntKind.wrap .i64 ((s : Int) + 1) = s + 1 := wrap_id (by omega) (by omega)
    have hsucc : (List.range (s + 1)).flatMap (tl2 o Q w) = (List.range s).flatMap (tl2 o Q w) ++ tl2 o Q w s := by simp [List.range_succ]
    have hfl := flat_le1 (f := tl2 o Q w) hs
    simp only [tl3] at hdB
    simp [g93_claim_book_whole_1_1_l2, p45, p1, p2, p3, p5, p6, p7, p11, p44, hlt, e1, e2, e3, e5, e6, e11, e44]
    refine wpr_seq (wpr_oblock (wpr_oblock (wpr_mono (l93_1 ho hQ hl hts hyv hG1 hGm hGy (by simp only [List.length_append]; omega) hw hs x' y' _ _ (by simp [p1]) (by simp [p2]) (by simp [p3]) (by simp [p5]) (by simp [p6]) (by simp [p7]) (by simp [p11]) (by simp) (by simp) hg) ?_)))
    rintro _ e2' h3 ⟨rfl, hg3, r1, r2, r3, r5, r6, r7, r11, r44, r45⟩
    rw [List.append_assoc, ← hsucc] at hg3
    simp at r1 r2 r3 r5 r6 r11 r44 r45
    simp [onB, onN, r1, r2, r3, r5, r6, r11, r44, r45, hw1, p1, p2, p3, p5, p6, p11, p44, p45]
    exact ⟨hg3, r7⟩
  · rintro e' h' ⟨hg, p45, p1, p2, p3, p5, p6, p7, p11, p44⟩
    rw [e44] at p44
    simp [g93_claim_book_whole_1_1_l2, p44, p45]
    exact hg
theorem drive0 {d : List AV} {h : H} {w : Nat} (hdB : d.length + (tl3 o Q w).length ≤ B) (hw : w < 2) (hG : G d h) :
    ∃ h', dcall pr (driveV (obc o Q kc m ts) yv c) [(Tru.mk w 0 0).v, .int .i64 0, .int .i64 0] h = some (.bool true, h') ∧ G (d ++ tl3 o Q w) h' := by
  suffices hh : ∃ v h', dcall pr (driveV (obc o Q kc m ts) yv c) [(Tru.mk w 0 0).v, .int .i64 0, .int .i64 0] h = some (v, h') ∧ (v = .bool true ∧ G (d ++ tl3 o Q w) h') by
    obtain ⟨v, h', h1, rfl, h2⟩ := hh; exact ⟨h', h1, h2⟩
  have hA := ho.az
  have hw1 : IntKind.wrap .i64 (o.z - o.a) = o.z - o.a := wrap_id (by omega) (by omega)
  have hw2 : IntKind.wrap .i64 (o.z - o.a + 1) = (o.slows : Nat) := by rw [wrap_id (by omega) (by omega)]; simp only [Ob.slows]; omega
  refine dcall_of fn93 rfl ?_
  simp [g93_claim_book_whole_1_1, g93_claim_book_whole_1_1_c, svs, hw1, hw2]
  refine wpr_seq (wpr_oblock (wpr_mono (l93_2 ho hQ hl hts hyv hG1 hGm hGy hdB hw _ _ rfl rfl rfl rfl rfl rfl rfl rfl rfl hG) ?_))
  rintro _ e2' h3 ⟨rfl, hg3⟩
  simp [onB, onN, results, rdRess, rdRes]
  exact hg3
end

theorem mem_tl {o : Ob} {Q : List (Int × Int)} {w s k : Nat} (hs0 : 0 < o.stops) (hw : w < 2) (hs : s < o.slows) (hk : k < 2) (h : okm Q (o.mn w s k) = true) : (o.tr w s k).v ∈ tl o Q := by
  simp only [tl, tl3, tl2, List.mem_flatMap, List.mem_range]
  refine ⟨w, hw, s, hs, k, hk, ?_⟩
  simp only [tl1, h, if_true, List.mem_replicate]
  exact ⟨by omega, trivial⟩
theorem l91_0 (o : Ob) (ho : o.Ok) (Q : List (Int × Int)) (hQ : QOk Q) (hl : Q.length ≤ 5) (kc : SK) (m : Nat) (ts : AV) (hts : ts.flat = true) (yv : AV) (hyv : evt yv = some yv) (c : Nat) (G : List AV → H → Prop)
    (hG1 : ∀ d h, G d h → Mem m Q h ∧ h.get c = some (.cells [driveV (obc o Q kc m ts) yv c]) ∧ c < h.n)
    (hGm : ∀ d h h', G d h → Mem m Q h' → h'.n = h.n → (∀ j, j ≠ m → h'.get j = h.get j) → G d h')
    (hGy : ∀ d h w s k, w < 2 → s < o.slows → k < 2 → okm Q (o.mn w s k) = true → d.length < (tl o Q).length → G d h → ∃ h', dcall pr yv [(o.tr w s k).v] h = some (.bool true, h') ∧ G (d ++ [(o.tr w s k).v]) h')
    (e : Env) (h : H) (e1 : e 1 = .cptr (obc o Q kc m ts)) (e4 : e 4 = .ptr c 0) (e9 : e 9 = .int .i64 0) (hG : G [] h) :
    wpr (den pr (.loop g91_claim_book_whole_1_l0) e h) fun oo e' h' => oo = .exit 0 ∧ G (tl o Q) h' := by
  refine loop_up pr (fun w e' h' => G ((List.range (min w 2)).flatMap (tl3 o Q)) h' ∧ e' 1 = e 1 ∧ e' 4 = e 4 ∧ e' 9 = .int .i64 w) 3 ?_ ?_ 0 _ _ (by omega) ⟨by simpa using hG, rfl, rfl, e9⟩
  · rintro w e' h' hw ⟨hg, p1, p4, p9⟩
    rw [e1] at p1; rw [e4] at p4
    obtain ⟨g1, g2, g3⟩ := hG1 _ _ hg
    have f0 := flat_le1 (f := tl3 o Q) (k := 0) (n := 2) (by omega)
    have f1 := flat_le1 (f := tl3 o Q) (k := 1) (n := 2) (by omega)
    simp only [List.range_zero, List.flatMap_nil, List.length_nil, Nat.zero_add] at f0
    match w, hw with
    | 0, _ =>
      obtain ⟨h2, hc, hg2⟩ := drive0 ho hQ hl hts hyv hG1 hGm hGy (B := (tl o Q).length) (w := 0) (by simpa [tl] using f0) (by omega) hg
      have b1 : bin .shr (.int .i64 3) (.int .i64 0) = some (.int .i64 3) := by rfl
      have b2 : bin .and (.int .i64 3) (.int .i64 1) = some (.int .i64 1) := by rfl
      simp at hg2 hc
      simp [g91_claim_book_whole_1_l0, p1, p4, p9, e1, e4, b1, b2, g2, g3, hc]
      simpa using hg2
    | 1, _ =>
      obtain ⟨h2, hc, hg2⟩ := drive0 ho hQ hl hts hyv hG1 hGm hGy (B := (tl o Q).length) (w := 1) (by simpa [tl] using f1) (by omega) hg
      have b1 : bin .shr (.int .i64 3) (.int .i64 1) = some (.int .i64 1) := by rfl
      have b2 : bin .and (.int .i64 1) (.int .i64 1) = some (.int .i64 1) := by rfl
      simp at hg2 hc
      simp [g91_claim_book_whole_1_l0, p1, p4, p9, e1, e4, b1, b2, g2, g3, hc]
      simpa [List.range_succ] using hg2
    | 2, _ =>
      have b1 : bin .shr (.int .i64 3) (.int .i64 2) = some (.int .i64 0) := by rfl
      have b2 : bin .and (.int .i64 0) (.int .i64 1) = some (.int .i64 0) := by rfl
      simp [g91_claim_book_whole_1_l0, p1, p4, p9, e1, e4, b1, b2]
      exact ⟨by simpa using hg, by rfl⟩
  · rintro e' h' ⟨hg, p1, p4, p9⟩
    simp [g91_claim_book_whole_1_l0, p9]
    exact hg
end Av
end
