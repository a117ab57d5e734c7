/- Contracts of the layer of ruts: the conditions stand in each statement. -/
import Derived.Test.YtnlflblfonkapaaGreatDoorAvMJ
set_option linter.all false
set_option linter.unusedSectionVars false
set_option linter.unusedVariables false
set_option linter.unusedSimpArgs false
set_option linter.unnecessarySimpa false
section
/- Contracts of rut: the small functions, Check. -/
set_option linter.unusedSimpArgs false
set_option linter.unusedVariables false
set_option maxRecDepth 8000
namespace Av
open Go (IntKind BinOp UnOp)

@[simp] theorem w3 : IntKind.wrap .i64 3 = 3 := rfl
theorem k38 (a b high wide : Int) (hh : high ≤ 1000) : icall pr (.fn 38 [] []) [.agg [.int .i64 a, .int .i64 b], .int .i64 high, .int .i64 wide] = some (.bool (spanOk a b 0 high wide)) := by
  refine icall_fn fn38 rfl rfl rfl rfl ?_
  unfold spanOk
  by_cases h1 : 0 ≤ a <;> by_cases h2 : a ≤ b <;> by_cases h3 : b ≤ high
  · have w1 : IntKind.wrap .i64 (b - a) = b - a := wrap_id (by omega) (by omega)
    by_cases h4 : b - a ≤ wide <;> simp [g38_rut_isSpan, g38_rut_isSpan_c, results, rdRess, rdRes, h1, h2, h3, h4, w1]
  all_goals simp [g38_rut_isSpan, g38_rut_isSpan_c, results, rdRess, rdRes, h1, h2, h3]
theorem k39 (o : Ob) : icall pr (.fn 39 [] []) [o.rv, .int .i64 0] = some (.bool true) := by
  refine icall_fn fn39 rfl rfl (by simp) rfl ?_
  simp [g39_rut_isMile, g39_rut_isMile_c, results, rdRess, rdRes, k37]
theorem k40 (o : Ob) : icall pr (.fn 40 [] []) [o.rv, .int .i64 0] = some (.bool true) := by
  refine icall_fn fn40 rfl rfl (by simp) rfl ?_
  simp [g40_rut_isDay, g40_rut_isDay_c, results, rdRess, rdRes, k37]
theorem k41 (o : Ob) (p : Int × Int) (h : (0 ≤ p.1 ∧ p.1 ≤ 600) ∧ 0 ≤ p.2 ∧ p.2 ≤ 5) : icall pr (.fn 41 [] []) [o.rv, stf p] = some (.bool true) := by
  have h39 := k39 o
  have h40 := k40 o
  refine icall_fn fn41 rfl rfl (by simp) rfl ?_
  simp [g41_rut_isStaff, g41_rut_isStaff_c, results, rdRess, rdRes, k37, h39, h40, h]
theorem k9 (o : Ob) (ho : o.Ok) : icall pr (.fn 9 [] []) [o.rv] = some (.int .i64 0) := by
  have ha := ho.az; have hl := ho.low; have hc := ho.c; have hd := ho.due; have hlen := ho.len
  have s1 : spanOk o.a o.z 0 60 3 = true := by simp [spanOk]; omega
  have s2 : spanOk o.low (o.low + 1) 0 4 1 = true := by simp [spanOk]; omega
  have s3 : spanOk 0 0 0 4 1 = true := rfl
  have s4 : spanOk o.c o.c 0 4 1 = true := by simp [spanOk]; omega
  have hd2 : 0 ≤ o.due ∧ o.due ≤ 600 := by omega
  have hlen2 : (o.q.length : Int) ≤ 5 := by omega
  refine icall_fn fn9 rfl rfl (by simp) rfl ?_
  simp [g9_rut_Check, g9_rut_Check_c, k37, hd2, hlen2]
  refine wpr_seq (wpr_oblock ?_)
  rw [r_loop]
  simp [g9_rut_Check_l0, k38, s1]
  rw [r_loop]
  simp [g9_rut_Check_l0, onB, onN]
  refine wpr_seq (wpr_oblock ?_)
  rw [r_loop]
  simp [g9_rut_Check_l1, k38, s2]
  rw [r_loop]
  simp [g9_rut_Check_l1, k38, s3]
  rw [r_loop]
  simp [g9_rut_Check_l1, k38, s4]
  rw [r_loop]
  simp [g9_rut_Check_l1, onB, onN, w3]
  refine wpr_seq (wpr_oblock ?_)
  rw [r_loop]
  simp [g9_rut_Check_l2, k37]
  rw [r_loop]
  simp [g9_rut_Check_l2, onB, onN]
  refine wpr_seq (wpr_oblock ?_)
  rw [r_loop]
  simp [g9_rut_Check_l3, onB, onN]
  refine wpr_seq (wpr_oblock (loop_up pr (fun k e h => e 1 = .lbox 0 o.rc ∧ e 3 = .bool true ∧ e 111 = .sl (stfs o.q) .shut ∧ e 112 = .int .i64 o.q.length ∧ e 113 = .int .i64 k) o.q.length ?_ ?_ 0 _ _ (by omega) ⟨rfl, rfl, rfl, rfl, rfl⟩))
  · rintro k e h hk ⟨e1, e3, e111, e112, e113⟩
    have hw : IntKind.wrap .i64 ((k : Int) + 1) = k + 1 := wrap_id (by omega) (by omega)
    have h41 := k41 o o.q[k] (ho.q _ (List.getElem_mem _))
    simp [g9_rut_Check_l4, e1, e3, e111, e112, e113, hk, hw, h41]
  · rintro e h ⟨e1, e3, e111, e112, e113⟩
    simp [g9_rut_Check_l4, e1, e3, e111, e112, e113, onB, onN, results, rdRess, rdRes]
theorem k95 : icall pr (.fn 95 [] []) [] = some (.agg [.fn 116 [] []]) := by
  refine icall_fn fn95 rfl rfl rfl rfl ?_
  simp [g95_rut_low, g95_rut_low_c, results, rdRess, rdRes]
theorem k96 : icall pr (.fn 96 [] []) [] = some (.agg [.fn 117 [] []]) := by
  refine icall_fn fn96 rfl rfl rfl rfl ?_
  simp [g96_rut_high, g96_rut_high_c, results, rdRess, rdRes]
theorem k116 (a b : Int) : icall pr (.fn 116 [] []) [.agg [.int .i64 a, .int .i64 b]] = some (.int .i64 a) := by
  refine icall_fn fn116 rfl rfl rfl rfl ?_
  simp [g116_rut_low_1, g116_rut_low_1_c, results, rdRess, rdRes]
theorem k117 (a b : Int) : icall pr (.fn 117 [] []) [.agg [.int .i64 a, .int .i64 b]] = some (.int .i64 b) := by
  refine icall_fn fn117 rfl rfl rfl rfl ?_
  simp [g117_rut_high_1, g117_rut_high_1_c, results, rdRess, rdRes]

/-- an opened book of ruts -/
abbrev obr (o : Ob) (mp ts : AV) : List AV := [.sl [.agg [.int .i64 o.a, .int .i64 o.z]] .shut, .int .i64 o.low, .int .i64 (o.low + 1), .int .i64 0, .int .i64 0, .int .i64 o.c, .int .i64 o.c,
  .sl [.agg [.int .i64 1, .int .i64 0, .int .i64 1]] .shut, .sl [] .shut, .sl (stfs o.q) .shut, .int .i64 o.due, mp, ts]
abbrev wv (w c : Int) : AV := .agg [.int .i64 w, .int .i64 0, .int .i64 c]
theorem d102 (o : Ob) (mp ts : AV) (hm : mp.flat = true) (ht : ts.flat = true) (w c fr : Int) (hw : 0 ≤ w ∧ w ≤ 4) (hc : 0 ≤ c ∧ c ≤ 4) (hf : fr = 0 ∨ fr = 1) (h : H) :
    ∃ v h', dcall pr (.fn 102 [] []) [.agg (obr o mp ts), .int .i64 0, wv w c, .int .i64 fr] h = some (v, h') ∧ (v = .int .i64 (w + fr * c) ∧ h' = h) := by
  refine dcall_of fn102 rfl ?_
  have hcc : 0 ≤ fr * c ∧ fr * c ≤ 4 := by rcases hf with rfl | rfl <;> omega
  have b1 : bin .shr (.int .i64 fr) (.int .i64 0) = some (.int .i64 fr) := by rcases hf with rfl | rfl <;> rfl
  have b2 : bin .and (.int .i64 fr) (.int .i64 1) = some (.int .i64 fr) := by rcases hf with rfl | rfl <;> rfl
  have w1 : IntKind.wrap .i64 w = w := wrap_id (by omega) (by omega)
  have w2 : IntKind.wrap .i64 (fr * c) = fr * c := wrap_id (by omega) (by omega)
  have hs := k118 [w, 0, fr * c] (by simp) (by intro x hx; simp at hx; rcases hx with rfl | rfl | rfl <;> omega)
  have hsum : ([w, 0, fr * c] : List Int).sum = w + fr * c := by simp
  rw [hsum] at hs
  simp only [iv_cons, iv_nil] at hs
  by_cases h0 : w = 0 ∧ c = 0
  · obtain ⟨rfl, rfl⟩ := h0
    simp [g102_rut_book_cost, g102_rut_book_cost_c, hm, ht, k99, eqk3, results, rdRess, rdRes]
  · have h0' : ¬ (w = 0 ∧ c = 0) := h0
    simp [g102_rut_book_cost, g102_rut_book_cost_c, hm, ht, k99, eqk3, h0', b1, b2, w1, w2, hs, results, rdRess, rdRes]
end Av
end

section
/- Contracts of rut: deeper, right. -/
set_option linter.unusedSimpArgs false
set_option linter.unusedVariables false
set_option maxRecDepth 8000
namespace Av
open Go (IntKind BinOp UnOp)

theorem k1077 (o : Ob) (m : Nat) (ts : AV) (ht : ts.flat = true) (w c fr : Int) (hw : 0 ≤ w ∧ w ≤ 4) (hc : 0 ≤ c ∧ c ≤ 4) (hf : fr = 0 ∨ fr = 1) (h : H) (hm : h.get m = some (.mp [])) :
    dcall pr (.fn 1077 [] []) [.agg (obr o (.mp m) ts), wv w c, .int .i64 fr, .int .i64 0, .int .i64 0] h = some (.tup [.int .i64 (w + fr * c), .bool false], h) := by
  have : ∃ v h', dcall pr (.fn 1077 [] []) [.agg (obr o (.mp m) ts), wv w c, .int .i64 fr, .int .i64 0, .int .i64 0] h = some (v, h') ∧ (v = .tup [.int .i64 (w + fr * c), .bool false] ∧ h' = h) := by
    obtain ⟨v, h', hd, rfl, rfl⟩ := d102 o (.mp m) ts rfl ht w c fr hw hc hf h
    have hcc : 0 ≤ fr * c ∧ fr * c ≤ 4 := by rcases hf with rfl | rfl <;> omega
    have w1 : IntKind.wrap .i64 (w + fr * c) = w + fr * c := wrap_id (by omega) (by omega)
    have hfk : findk 2 (.agg [.int .i64 0, .int .i64 0]) [] = some none := rfl
    refine dcall_of fn1077 rfl ?_
    simp [g77_rut_book_deeper_v1, g77_rut_book_deeper_v1_c, ht]
    refine wpr_seq (wpr_oblock ?_)
    rw [r_loop]
    simp [g77_rut_book_deeper_v1_l0, ht, hm, keyLen, hfk, hd, w1]
    rw [r_loop]
    simp [g77_rut_book_deeper_v1_l0, onB, onN, results, rdRess, rdRes]
  obtain ⟨v, h', h1, rfl, rfl⟩ := this
  exact h1
/-- a book of ruts, as it is returned -/
abbrev opr (o : Ob) (T : List AV) : List AV := obr o (.mv [] []) (.sl T .shut)
theorem k102 (o : Ob) (T : List AV) (hT : cleans T = true) (w c fr : Int) (hw : 0 ≤ w ∧ w ≤ 4) (hc : 0 ≤ c ∧ c ≤ 4) (hf : fr = 0 ∨ fr = 1) :
    icall pr (.fn 102 [] []) [.agg (opr o T), .int .i64 0, wv w c, .int .i64 fr] = some (.int .i64 (w + fr * c)) := by
  obtain ⟨v, h', hd, rfl, rfl⟩ := d102 o (.mv [] []) (.sl T .shut) rfl rfl w c fr hw hc hf H.emp
  exact icall_of pr rfl (by simp [hT]) hd rfl rfl
theorem k77 (o : Ob) (T : List AV) (hT : cleans T = true) (w c fr : Int) (hw : 0 ≤ w ∧ w ≤ 4) (hc : 0 ≤ c ∧ c ≤ 4) (hf : fr = 0 ∨ fr = 1) :
    icall pr (.fn 77 [] []) [.agg (opr o T), wv w c, .int .i64 fr, .int .i64 0, .int .i64 0] = some (.tup [.int .i64 (w + fr * c), .bool false]) := by
  have hd := k102 o T hT w c fr hw hc hf
  have hcc : 0 ≤ fr * c ∧ fr * c ≤ 4 := by rcases hf with rfl | rfl <;> omega
  have w1 : IntKind.wrap .i64 (w + fr * c) = w + fr * c := wrap_id (by omega) (by omega)
  have hfk : findv 2 (.agg [.int .i64 0, .int .i64 0]) [] [] = some none := rfl
  refine icall_fn fn77 rfl rfl (by simp [hT]) rfl ?_
  simp [g77_rut_book_deeper, g77_rut_book_deeper_c]
  refine wpr_seq (wpr_oblock ?_)
  rw [r_loop]
  simp [g77_rut_book_deeper_l0, keyLen, hfk, hd, w1]
  rw [r_loop]
  simp [g77_rut_book_deeper_l0, onB, onN, results, rdRess, rdRes]

/-- how deep a mile can be at first -/
def loR (Q : List (Int × Int)) (x n : Int) : Int := Q.foldl (fun a p => max a (p.1 - p.2 - n)) x
def hiR (Q : List (Int × Int)) (x n : Int) : Int := Q.foldl (fun a p => min a (p.1 + p.2 - n)) x
theorem loR_bd (Q : List (Int × Int)) (hQ : QOk Q) (n : Int) (hn : 0 ≤ n ∧ n ≤ 8) : ∀ x, 0 ≤ x ∧ x ≤ 700 → 0 ≤ loR Q x n ∧ loR Q x n ≤ 700 := by
  induction Q with
  | nil => intro x hx; exact hx
  | cons p Q ih =>
    intro x hx
    have := hQ p (by simp)
    exact ih (fun q hq => hQ q (by simp [hq])) _ (by simp only; omega)
theorem hiR_bd (Q : List (Int × Int)) (hQ : QOk Q) (n : Int) (hn : 0 ≤ n ∧ n ≤ 8) : ∀ x, -700 ≤ x ∧ x ≤ 700 → -700 ≤ hiR Q x n ∧ hiR Q x n ≤ 700 := by
  induction Q with
  | nil => intro x hx; exact hx
  | cons p Q ih =>
    intro x hx
    have := hQ p (by simp)
    exact ih (fun q hq => hQ q (by simp [hq])) _ (by simp only; omega)
theorem k72 (o : Ob) (ho : o.Ok) (L : List Int) (hL : (L.length : Int) ≤ 9223372036854775807) (kl : SK) (m : Nat) (ts : AV) (ht : ts.flat = true) (w fr : Int) (hw : 0 ≤ w ∧ w ≤ 4) (hf : fr = 0 ∨ fr = 1) (h : H) (hm : h.get m = some (.mp [])) :
    dcall pr (.fn 72 [.agg (obr o (.mp m) ts)] []) [wv w o.c, .int .i64 fr, .int .i64 0, .sl (iv L) kl] h =
      some (.tup [.agg [.int .i64 (loR (o.left L) o.a (w + fr * o.c)), .int .i64 (hiR (o.left L) o.z (w + fr * o.c))], .bool (decide (loR (o.left L) o.a (w + fr * o.c) ≤ hiR (o.left L) o.z (w + fr * o.c)))], h) := by
  have hc := ho.c; have ha := ho.az; have hlen := ho.len
  have hcc : 0 ≤ fr * o.c ∧ fr * o.c ≤ 4 := by rcases hf with rfl | rfl <;> omega
  have : ∃ v h', dcall pr (.fn 72 [.agg (obr o (.mp m) ts)] []) [wv w o.c, .int .i64 fr, .int .i64 0, .sl (iv L) kl] h = some (v, h') ∧
      (v = .tup [.agg [.int .i64 (loR (o.left L) o.a (w + fr * o.c)), .int .i64 (hiR (o.left L) o.z (w + fr * o.c))], .bool (decide (loR (o.left L) o.a (w + fr * o.c) ≤ hiR (o.left L) o.z (w + fr * o.c)))] ∧ h' = h) := by
    have hd := k1077 o m ts ht w o.c fr hw hc hf h hm
    generalize hn : w + fr * o.c = n at *
    have hnb : 0 ≤ n ∧ n ≤ 8 := by omega
    refine dcall_of fn72 rfl ?_
    simp [g72_rut_book_right, g72_rut_book_right_c, ht]
    refine wpr_seq (wpr_oblock (loop_up pr (fun k e h' => h' = h ∧ e 2 = .int .i64 fr ∧ e 3 = .int .i64 0 ∧ e 4 = .sl (iv L) kl ∧ e 5 = .lbox 0 (obr o (.mp m) ts) ∧ e 6 = .lbox 0 [.int .i64 w, .int .i64 0, .int .i64 o.c] ∧ e 10 = .lbox 0 [.int .i64 0, .int .i64 0] ∧ e 25 = .sl (stfs o.q) .shut ∧ e 26 = .int .i64 o.q.length ∧ e 27 = .int .i64 k ∧
      e 12 = .lbox 0 [.int .i64 (loR (leftQ L o.q k) o.a n), .int .i64 (hiR (leftQ L o.q k) o.z n)]) o.q.length ?_ ?_ 0 _ _ (by omega) ⟨rfl, rfl, rfl, rfl, rfl, rfl, rfl, rfl, by simp, rfl, by simp [leftQ, loR, hiR]⟩))
    · rintro k e h' hk ⟨rfl, e2, e3, e4, e5, e6, e10, e25, e26, e27, e12⟩
      have hw1 : IntKind.wrap .i64 ((k : Int) + 1) = k + 1 := wrap_id (by omega) (by omega)
      have hq := ho.q o.q[k] (List.getElem_mem _)
      have hx1 : IntKind.wrap .i64 ((o.q[k]).1 - (o.q[k]).2) = (o.q[k]).1 - (o.q[k]).2 := wrap_id (by omega) (by omega)
      have hx2 : IntKind.wrap .i64 ((o.q[k]).1 - (o.q[k]).2 - n) = (o.q[k]).1 - (o.q[k]).2 - n := wrap_id (by omega) (by omega)
      have hx3 : IntKind.wrap .i64 ((o.q[k]).1 + (o.q[k]).2) = (o.q[k]).1 + (o.q[k]).2 := wrap_id (by omega) (by omega)
      have hx4 : IntKind.wrap .i64 ((o.q[k]).1 + (o.q[k]).2 - n) = (o.q[k]).1 + (o.q[k]).2 - n := wrap_id (by omega) (by omega)
      have hsucc : leftQ L o.q (k + 1) = leftQ L o.q k ++ (if (k : Int) ∈ L then [] else [o.q[k]]) := by
        simp only [leftQ, List.getElem?_eq_getElem hk]
      by_cases hin : (k : Int) ∈ L
      · rw [if_pos hin, List.append_nil] at hsucc
        simp [g72_rut_book_right_l0, e2, e3, e4, e5, e6, e10, e25, e26, e27, e12, hk, hw1, k70 L hL, hin, hsucc, ht]
      · rw [if_neg hin] at hsucc
        have h1 : loR (leftQ L o.q (k + 1)) o.a n = max (loR (leftQ L o.q k) o.a n) ((o.q[k]).1 - (o.q[k]).2 - n) := by rw [hsucc]; simp [loR, List.foldl_append]
        have h2 : hiR (leftQ L o.q (k + 1)) o.z n = min (hiR (leftQ L o.q k) o.z n) ((o.q[k]).1 + (o.q[k]).2 - n) := by rw [hsucc]; simp [hiR, List.foldl_append]
        simp [g72_rut_book_right_l0, e2, e3, e4, e5, e6, e10, e25, e26, e27, e12, hk, hw1, k70 L hL, hin, h1, h2, ht, hd, hx1, hx2, hx3, hx4]
    · rintro e h' ⟨rfl, e2, e3, e4, e5, e6, e10, e25, e26, e27, e12⟩
      simp [g72_rut_book_right_l0, e2, e3, e4, e5, e6, e10, e25, e26, e27, e12, onB, onN, results, rdRess, rdRes, k95, k96, k116, k117, Ob.left]
      try exact decide_eq_decide.2 Iff.rfl
  obtain ⟨v, h', h1, rfl, rfl⟩ := this
  exact h1
end Av
end

section
/- What wheels and frost can cost, and the nights of frost, are yielded. -/
set_option linter.unusedSimpArgs false
set_option linter.unusedVariables false
set_option maxRecDepth 8000
namespace Av
open Go (IntKind BinOp UnOp)

abbrev fromV (bk : List AV) (yv : AV) (c : Nat) : AV := .fn 98 [] [.cptr [yv], .cptr bk, .ptr c 0]
def CW (o : Ob) : List AV := [wv o.low o.c, wv (o.low + 1) o.c]
abbrev w3v (x y z : Int) : AV := .agg [.int .i64 x, .int .i64 y, .int .i64 z]
section
variable {o : Ob} (ho : o.Ok) {mp ts : AV} (hmp : mp.flat = true) (hts : ts.flat = true) {yv : AV} (hyv : evt yv = some yv) {c : Nat} {G : List AV → H → Prop}
variable (hG1 : ∀ d h, G d h → h.get c = some (.cells [fromV (obr o mp ts) yv c]) ∧ c < h.n)
variable (hGy : ∀ d h v, v ∈ CW o → d.length < 2 → G d h → ∃ h', dcall pr yv [v] h = some (.bool true, h') ∧ G (d ++ [v]) h')
include ho hmp hts hyv hG1 hGy
theorem from3 {d : List AV} {h : H} {x : Int} (hx : x = o.low ∨ x = o.low + 1) (hd : d.length < 2) (hG : G d h) :
    ∃ h', dcall pr (fromV (obr o mp ts) yv c) [wv x o.c, .int .i64 3] h = some (.bool true, h') ∧ G (d ++ [wv x o.c]) h' := by
  suffices hh : ∃ v h', dcall pr (fromV (obr o mp ts) yv c) [wv x o.c, .int .i64 3] h = some (v, h') ∧ (v = .bool true ∧ G (d ++ [wv x o.c]) h') by
    obtain ⟨v, h', h1, rfl, h2⟩ := hh; exact ⟨h', h1, h2⟩
  obtain ⟨h', hy, hg⟩ := hGy d h (wv x o.c) (by rcases hx with rfl | rfl <;> simp [CW]) hd hG
  refine dcall_of fn98 rfl ?_
  simp [g98_rut_book_costs_1_1, g98_rut_book_costs_1_1_c, hyv, hy, results, rdRess, rdRes]
  exact hg
theorem from2 {d : List AV} {h : H} {x z : Int} (hx : x = o.low ∨ x = o.low + 1) (hd : d.length < 2) (hG : G d h) :
    ∃ h', dcall pr (fromV (obr o mp ts) yv c) [w3v x 0 z, .int .i64 2] h = some (.bool true, h') ∧ G (d ++ [wv x o.c]) h' := by
  suffices hh : ∃ v h', dcall pr (fromV (obr o mp ts) yv c) [w3v x 0 z, .int .i64 2] h = some (v, h') ∧ (v = .bool true ∧ G (d ++ [wv x o.c]) h') by
    obtain ⟨v, h', h1, rfl, h2⟩ := hh; exact ⟨h', h1, h2⟩
  obtain ⟨h', hy, hg⟩ := from3 ho hmp hts hyv hG1 hGy hx hd hG
  obtain ⟨g2, g3⟩ := hG1 _ _ hG
  have hc := ho.c
  have w1 : IntKind.wrap .i64 o.c = o.c := wrap_id (by omega) (by omega)
  refine dcall_of fn98 rfl ?_
  simp [g98_rut_book_costs_1_1, g98_rut_book_costs_1_1_c]
  refine wpr_seq (wpr_oblock ?_)
  rw [r_loop]
  simp [g98_rut_book_costs_1_1_l0, g2, g3, w1, hy]
  rw [r_loop]
  simp [g98_rut_book_costs_1_1_l0, onB, onN, results, rdRess, rdRes]
  exact hg
theorem from1 {d : List AV} {h : H} {x y z : Int} (hx : x = o.low ∨ x = o.low + 1) (hd : d.length < 2) (hG : G d h) :
    ∃ h', dcall pr (fromV (obr o mp ts) yv c) [w3v x y z, .int .i64 1] h = some (.bool true, h') ∧ G (d ++ [wv x o.c]) h' := by
  suffices hh : ∃ v h', dcall pr (fromV (obr o mp ts) yv c) [w3v x y z, .int .i64 1] h = some (v, h') ∧ (v = .bool true ∧ G (d ++ [wv x o.c]) h') by
    obtain ⟨v, h', h1, rfl, h2⟩ := hh; exact ⟨h', h1, h2⟩
  obtain ⟨h', hy, hg⟩ := from2 ho hmp hts hyv hG1 hGy (z := z) hx hd hG
  obtain ⟨g2, g3⟩ := hG1 _ _ hG
  refine dcall_of fn98 rfl ?_
  simp [g98_rut_book_costs_1_1, g98_rut_book_costs_1_1_c]
  refine wpr_seq (wpr_oblock ?_)
  rw [r_loop]
  simp [g98_rut_book_costs_1_1_l0, g2, g3, hy]
  rw [r_loop]
  simp [g98_rut_book_costs_1_1_l0, onB, onN, results, rdRess, rdRes]
  exact hg
theorem from0 {h : H} (hG : G [] h) :
    ∃ h', dcall pr (fromV (obr o mp ts) yv c) [w3v 0 0 0, .int .i64 0] h = some (.bool true, h') ∧ G (CW o) h' := by
  suffices hh : ∃ v h', dcall pr (fromV (obr o mp ts) yv c) [w3v 0 0 0, .int .i64 0] h = some (v, h') ∧ (v = .bool true ∧ G (CW o) h') by
    obtain ⟨v, h', h1, rfl, h2⟩ := hh; exact ⟨h', h1, h2⟩
  obtain ⟨h1, hy, hg⟩ := from1 ho hmp hts hyv hG1 hGy (y := 0) (z := 0) (x := o.low) (.inl rfl) (by simp) hG
  obtain ⟨h2, hy2, hg2⟩ := from1 ho hmp hts hyv hG1 hGy (y := 0) (z := 0) (x := o.low + 1) (.inr rfl) (by simp) hg
  obtain ⟨g2, g3⟩ := hG1 _ _ hG
  obtain ⟨g4, g5⟩ := hG1 _ _ hg
  have hl := ho.low
  have w1 : IntKind.wrap .i64 o.low = o.low := wrap_id (by omega) (by omega)
  have w4 : IntKind.wrap .i64 (o.low + 1) = o.low + 1 := wrap_id (by omega) (by omega)
  have w5 : o.low + 1 - o.low = 1 := by omega
  refine dcall_of fn98 rfl ?_
  simp [g98_rut_book_costs_1_1, g98_rut_book_costs_1_1_c, w5]
  refine wpr_seq (wpr_oblock ?_)
  rw [r_loop]
  simp [g98_rut_book_costs_1_1_l0, g2, g3, w1, hy]
  rw [r_loop]
  simp [g98_rut_book_costs_1_1_l0, g4, g5, w4, hy2]
  rw [r_loop]
  simp [g98_rut_book_costs_1_1_l0, onB, onN, results, rdRess, rdRes]
  exact hg2
end

abbrev costsV (bk : List AV) : AV := .fn 97 [] [.cptr bk]
theorem k73 (o : Ob) (mp ts : AV) (hmp : mp.flat = true) (hts : ts.flat = true) (h : H) : dcall pr (.fn 73 [] []) [.agg (obr o mp ts)] h = some (costsV (obr o mp ts), h) := by
  have : ∃ w h', dcall pr (.fn 73 [] []) [.agg (obr o mp ts)] h = some (w, h') ∧ (w = costsV (obr o mp ts) ∧ h' = h) := by
    refine dcall_of fn73 rfl ?_
    simp [g73_rut_book_costs, g73_rut_book_costs_c, hmp, hts, results, rdRess, rdRes]
  obtain ⟨w, h', h1, rfl, rfl⟩ := this
  exact h1
theorem k97 (o : Ob) (ho : o.Ok) (mp ts : AV) (hmp : mp.flat = true) (hts : ts.flat = true) (n0 : Nat) (M : H → Prop) (Ms : Nat → Prop) (hMs : ∀ j, Ms j → j < n0) (hMst : ∀ h1 h2, (∀ j, Ms j → h2.get j = h1.get j) → h1.n ≤ h2.n → M h1 → M h2)
    (hMt : ∀ h, M h → ∀ j, Ms j → h.get j ≠ some .tok) :
    Iter (costsV (obr o mp ts)) n0 (CW o) M Ms := by
  intro U Ks yv hyv hyf hKM hK hU hy h hn hu hM
  let dv := fromV (obr o mp ts) yv h.n
  let G : List AV → H → Prop := fun d h' => U d h' ∧ M h' ∧ h'.get h.n = some (.cells [dv]) ∧ h.n + 1 ≤ h'.n ∧ ∀ j, j < h.n → ¬ Ks j → ¬ Ms j → h.get j ≠ some .tok → h'.get j = h.get j
  have hG1 : ∀ d h', G d h' → h'.get h.n = some (.cells [fromV (obr o mp ts) yv h.n]) ∧ h.n < h'.n := fun d h' hg => ⟨hg.2.2.1, hg.2.2.2.1⟩
  have hGy : ∀ d h1 v, v ∈ CW o → d.length < 2 → G d h1 → ∃ h2, dcall pr yv [v] h1 = some (.bool true, h2) ∧ G (d ++ [v]) h2 := by
    rintro d h1 v hv hd ⟨g1, g2, g3, g4, g5⟩
    obtain ⟨h2, a1, a2, a3, a4⟩ := hy _ h1 v hv (by simpa [CW] using hd) (by omega) g1
    have hKn : ¬ Ks h.n := fun hk => by have := hK _ hk; omega
    refine ⟨h2, a1, a2, hMst h1 h2 (fun j hj => a4 j (by have := hMs j hj; omega) (fun hk => hKM j hk hj) (hMt h1 g2 j hj)) a3 g2, ?_, by omega, fun j h1' h2' h3' h4' => ?_⟩
    · rw [a4 _ (by omega) hKn (by rw [g3]; simp)]; exact g3
    · have := g5 j h1' h2' h3' h4'
      rw [a4 j (by omega) h2' (by rw [this]; exact h4')]; exact this
  suffices hh : ∃ w h', dcall pr (costsV (obr o mp ts)) [yv] h = some (w, h') ∧ G (CW o) h' by
    obtain ⟨w, h', h1, h2⟩ := hh
    exact ⟨h', w, h1, h2.1, h2.2.1, by have := h2.2.2.2.1; omega, fun j hj hk hm ht => h2.2.2.2.2 j hj hk hm ht⟩
  refine dcall_of fn97 rfl ?_
  have hyc : yv.cells = [yv] := by cases yv <;> first | rfl | cases hyf
  have hne : ∀ j, j < h.n → j ≠ h.n := fun j hj => by omega
  obtain ⟨h2, hd2, hg2⟩ := from0 ho hmp hts hyv (G := G) hG1 hGy (h := (h.new (.cells [.nilf])).put h.n (.cells [dv]))
    ⟨hU _ h _ (fun j hj _ => by simp [hne j hj]) (by simp) hu, hMst h _ (fun j hj => by have := hMs j hj; simp [show j ≠ h.n by omega]) (by simp) hM, by simp, by simp, fun j hj _ _ _ => by simp [hne j hj]⟩
  simp only [dv] at hd2
  simp [g97_rut_book_costs_1, g97_rut_book_costs_1_c, hyv, hyf, hyc, k99, hd2, results, rdRess]
  exact hg2

abbrev nightV (bk : List AV) (yv : AV) (c : Nat) : AV := .fn 101 [] [.cptr bk, .cptr [yv], .ptr c 0]
def NW : List AV := [.int .i64 0, .int .i64 1]
section
variable {o : Ob} {mp ts : AV} (hmp : mp.flat = true) (hts : ts.flat = true) {yv : AV} (hyv : evt yv = some yv) {c : Nat} {G : List AV → H → Prop}
variable (hG1 : ∀ d h, G d h → h.get c = some (.cells [nightV (obr o mp ts) yv c]) ∧ c < h.n)
variable (hGy : ∀ d h v, v ∈ NW → d.length < 2 → G d h → ∃ h', dcall pr yv [v] h = some (.bool true, h') ∧ G (d ++ [v]) h')
include hmp hts hyv hG1 hGy
theorem night1 {d : List AV} {h : H} {x : Int} (hx : x = 0 ∨ x = 1) (hd : d.length < 2) (hG : G d h) :
    ∃ h', dcall pr (nightV (obr o mp ts) yv c) [.int .i64 x, .int .i64 1] h = some (.bool true, h') ∧ G (d ++ [.int .i64 x]) h' := by
  suffices hh : ∃ v h', dcall pr (nightV (obr o mp ts) yv c) [.int .i64 x, .int .i64 1] h = some (v, h') ∧ (v = .bool true ∧ G (d ++ [.int .i64 x]) h') by
    obtain ⟨v, h', h1, rfl, h2⟩ := hh; exact ⟨h', h1, h2⟩
  obtain ⟨h', hy, hg⟩ := hGy d h (.int .i64 x) (by rcases hx with rfl | rfl <;> simp [NW]) hd hG
  refine dcall_of fn101 rfl ?_
  simp [g101_rut_book_nights_1_1, g101_rut_book_nights_1_1_c, hyv, hy, results, rdRess, rdRes]
  exact hg
theorem night0 {h : H} (hG : G [] h) :
    ∃ h', dcall pr (nightV (obr o mp ts) yv c) [.int .i64 0, .int .i64 0] h = some (.bool true, h') ∧ G NW h' := by
  suffices hh : ∃ v h', dcall pr (nightV (obr o mp ts) yv c) [.int .i64 0, .int .i64 0] h = some (v, h') ∧ (v = .bool true ∧ G NW h') by
    obtain ⟨v, h', h1, rfl, h2⟩ := hh; exact ⟨h', h1, h2⟩
  obtain ⟨h1, hy, hg⟩ := night1 hmp hts hyv hG1 hGy (x := 0) (.inl rfl) (by simp) hG
  obtain ⟨h2, hy2, hg2⟩ := night1 hmp hts hyv hG1 hGy (x := 1) (.inr rfl) (by simp) hg
  obtain ⟨g2, g3⟩ := hG1 _ _ hG
  obtain ⟨g4, g5⟩ := hG1 _ _ hg
  have b1 : bin .shl (.int .i64 1) (.int .i64 0) = some (.int .i64 1) := by rfl
  have b2 : bin .or (.int .i64 0) (.int .i64 1) = some (.int .i64 1) := by rfl
  refine dcall_of fn101 rfl ?_
  simp [g101_rut_book_nights_1_1, g101_rut_book_nights_1_1_c, g2, g3, g4, g5, hy, hy2, b1, b2, results, rdRess, rdRes]
  exact hg2
end
abbrev nightsV (bk : List AV) : AV := .fn 100 [] [.cptr bk]
theorem k74 (o : Ob) (mp ts : AV) (hmp : mp.flat = true) (hts : ts.flat = true) (h : H) : dcall pr (.fn 74 [] []) [.agg (obr o mp ts)] h = some (nightsV (obr o mp ts), h) := by
  have : ∃ w h', dcall pr (.fn 74 [] []) [.agg (obr o mp ts)] h = some (w, h') ∧ (w = nightsV (obr o mp ts) ∧ h' = h) := by
    refine dcall_of fn74 rfl ?_
    simp [g74_rut_book_nights, g74_rut_book_nights_c, hmp, hts, results, rdRess, rdRes]
  obtain ⟨w, h', h1, rfl, rfl⟩ := this
  exact h1
theorem k100 (o : Ob) (mp ts : AV) (hmp : mp.flat = true) (hts : ts.flat = true) (n0 : Nat) (M : H → Prop) (Ms : Nat → Prop) (hMs : ∀ j, Ms j → j < n0) (hMst : ∀ h1 h2, (∀ j, Ms j → h2.get j = h1.get j) → h1.n ≤ h2.n → M h1 → M h2)
    (hMt : ∀ h, M h → ∀ j, Ms j → h.get j ≠ some .tok) :
    Iter (nightsV (obr o mp ts)) n0 NW M Ms := by
  intro U Ks yv hyv hyf hKM hK hU hy h hn hu hM
  let dv := nightV (obr o mp ts) yv h.n
  let G : List AV → H → Prop := fun d h' => U d h' ∧ M h' ∧ h'.get h.n = some (.cells [dv]) ∧ h.n + 1 ≤ h'.n ∧ ∀ j, j < h.n → ¬ Ks j → ¬ Ms j → h.get j ≠ some .tok → h'.get j = h.get j
  have hG1 : ∀ d h', G d h' → h'.get h.n = some (.cells [nightV (obr o mp ts) yv h.n]) ∧ h.n < h'.n := fun d h' hg => ⟨hg.2.2.1, hg.2.2.2.1⟩
  have hGy : ∀ d h1 v, v ∈ NW → d.length < 2 → G d h1 → ∃ h2, dcall pr yv [v] h1 = some (.bool true, h2) ∧ G (d ++ [v]) h2 := by
    rintro d h1 v hv hd ⟨g1, g2, g3, g4, g5⟩
    obtain ⟨h2, a1, a2, a3, a4⟩ := hy _ h1 v hv (by simpa [NW] using hd) (by omega) g1
    have hKn : ¬ Ks h.n := fun hk => by have := hK _ hk; omega
    refine ⟨h2, a1, a2, hMst h1 h2 (fun j hj => a4 j (by have := hMs j hj; omega) (fun hk => hKM j hk hj) (hMt h1 g2 j hj)) a3 g2, ?_, by omega, fun j h1' h2' h3' h4' => ?_⟩
    · rw [a4 _ (by omega) hKn (by rw [g3]; simp)]; exact g3
    · have := g5 j h1' h2' h3' h4'
      rw [a4 j (by omega) h2' (by rw [this]; exact h4')]; exact this
  suffices hh : ∃ w h', dcall pr (nightsV (obr o mp ts)) [yv] h = some (w, h') ∧ G NW h' by
    obtain ⟨w, h', h1, h2⟩ := hh
    exact ⟨h', w, h1, h2.1, h2.2.1, by have := h2.2.2.2.1; omega, fun j hj hk hm ht => h2.2.2.2.2 j hj hk hm ht⟩
  refine dcall_of fn100 rfl ?_
  have hyc : yv.cells = [yv] := by cases yv <;> first | rfl | cases hyf
  have hne : ∀ j, j < h.n → j ≠ h.n := fun j hj => by omega
  obtain ⟨h2, hd2, hg2⟩ := night0 hmp hts hyv (G := G) hG1 hGy (h := (h.new (.cells [.nilf])).put h.n (.cells [dv]))
    ⟨hU _ h _ (fun j hj _ => by simp [hne j hj]) (by simp) hu, hMst h _ (fun j hj => by have := hMs j hj; simp [show j ≠ h.n by omega]) (by simp) hM, by simp, by simp, fun j hj _ _ _ => by simp [hne j hj]⟩
  simp only [dv] at hd2
  simp [g100_rut_book_nights_1, g100_rut_book_nights_1_c, hyv, hyf, hyc, hd2, results, rdRess]
  exact hg2
end Av
end

section
/- A book of ruts is opened. -/
set_option linter.unusedSimpArgs false
set_option linter.unusedVariables false
set_option maxRecDepth 8000
namespace Av
open Go (IntKind BinOp UnOp)

/-- wears, frost, how deep a mile can be at first -/
structure TrR where
  w : Int
  fr : Int
  lo : Int
  hi : Int
abbrev TrR.c (c : Int) (t : TrR) : List AV := [.int .i64 t.w, .int .i64 0, .int .i64 c, .int .i64 t.fr, .int .i64 t.lo, .int .i64 t.hi, .int .i64 0, .int .i64 0, .int .i64 0, .int .i64 0, .int .i64 0, .int .i64 0]
abbrev TrR.v (c : Int) (t : TrR) : AV := .agg (t.c c)
def Ob.rr (o : Ob) (Q : List (Int × Int)) (w fr : Int) : TrR := ⟨w, fr, loR Q o.a (w + fr * o.c), hiR Q o.z (w + fr * o.c)⟩
def tr1 (o : Ob) (Q : List (Int × Int)) (w fr : Int) : List TrR := if loR Q o.a (w + fr * o.c) ≤ hiR Q o.z (w + fr * o.c) then [o.rr Q w fr] else []
def rl1 (o : Ob) (Q : List (Int × Int)) (w fr : Int) : List AV := (tr1 o Q w fr).map (TrR.v o.c)
theorem rl1_len (o Q w fr) : (rl1 o Q w fr).length ≤ 1 := by unfold rl1 tr1; split <;> simp
theorem rl1_mem {o : Ob} {Q w fr v} (h : v ∈ rl1 o Q w fr) : ∃ t : TrR, v = t.v o.c := by
  obtain ⟨t, _, rfl⟩ := List.mem_map.1 h; exact ⟨t, rfl⟩
/-- the state of the memory while truths are collected: nothing else than the book turns -/
def Col (o : Ob) (h : H) (T : List AV) (P : Nat → Prop) : Prop := ∃ kt, h.get 1 = some (.cells (obr o (.mp 0) (.sl T kt))) ∧ (kt = .exact ∨ ∃ t, kt = .opn t ∧ t < h.n ∧ P t ∧ h.get t = some .tok) ∧ 2 ≤ h.n ∧ h.get 0 = some (.mp [])
theorem b2_ok (o : Ob) (ho : o.Ok) (L : List Int) (hL : (L.length : Int) ≤ 9223372036854775807) (w fr : Int) (hw : w = o.low ∨ w = o.low + 1) (hf : fr = 0 ∨ fr = 1) (T : List AV) (hT : T.length ≤ 8) (hT12 : ∀ v, v ∈ T → ∃ t : TrR, v = t.v o.c) (P : Nat → Prop)
    (e : Env) (h : H) (e2 : e 2 = .cptr o.rc) (e3 : e 3 = .cptr [.sl (iv L) .shut]) (e5 : e 5 = .ptr 1 0) (e9 : e 9 = .cptr [.fn 72 [.agg (obr o (.mp 0) (.sl [] .exact))] []]) (e10 : e 10 = .cptr [.int .i64 w, .int .i64 0, .int .i64 o.c]) (e11 : e 11 = .int .i64 fr)
    (hC : Col o h T P) (hP : P h.n) (hP1 : ∀ t, P t → t ≠ 1) :
    wpr (den pr g43_rut_opened_b2 e h) fun oo e' h' => oo = .normal ∧ h.n ≤ h'.n ∧ Col o h' (T ++ rl1 o (o.left L) w fr) P ∧ ∀ j, j < h.n → ¬ j = 1 → h.get j ≠ some .tok → h'.get j = h.get j := by
  obtain ⟨kt, g1, g2, g3, g4⟩ := hC
  have hlow := ho.low
  have hk := k72 o ho L hL .shut 0 (.sl [] .exact) rfl w fr (by omega) hf h g4
  have hn1 : 1 < h.n := by omega
  simp [g43_rut_opened_b2, e2, e10, e11]
  refine wpr_oblock (wpr_seq (wpr_oblock ?_))
  rw [r_loop]
  by_cases hle : loR (o.left L) o.a (w + fr * o.c) ≤ hiR (o.left L) o.z (w + fr * o.c)
  · have hr : rl1 o (o.left L) w fr = [(o.rr (o.left L) w fr).v o.c] := by simp only [rl1, tr1, if_pos hle, List.map_cons, List.map_nil]
    rw [decide_eq_true hle] at hk
    have hOp : OpnT h kt := by
      rcases g2 with rfl | ⟨t, rfl, t1, t2, t3⟩
      · exact .inl rfl
      · exact OpnT.mk t1 t3
    have h12 : T.all (fun v => decide (v.cells.length = 12)) = true := by
      rw [List.all_eq_true]
      intro v hv
      obtain ⟨t, rfl⟩ := hT12 v hv
      simp
    obtain ⟨h2, ha, hn2, hgt, hfr⟩ := app_okT (h := h) (sz := 12) (bytes := 96) (es := T) (k := kt) (new := [(o.rr (o.left L) w fr).v o.c]) (k2 := .exact) hOp (by simp) h12 (by simp) (by simp; omega)
    have hkt : ∀ j, kt = .opn j → P j ∧ h.get j = some .tok := by
      rintro j rfl
      rcases g2 with hh | ⟨t', hh, t1, t2, t3⟩
      · cases hh
      · cases hh; exact ⟨t2, t3⟩
    have hf1 : h2.get 1 = h.get 1 := hfr 1 (by omega) (fun hh => hP1 1 (hkt 1 hh).1 rfl)
    have hf0 : h2.get 0 = h.get 0 := hfr 0 (by omega) (fun hh => by have := (hkt 0 hh).2; rw [g4] at this; cases this)
    simp only [TrR.v, TrR.c, Ob.rr] at ha hr
    simp [g43_rut_opened_l1, e3, e5, e9, e10, e11, hk]
    rw [r_loop]
    simp [g43_rut_opened_l1, onB, onN, e5, g1, hn1, ha, hf1]
    refine ⟨by omega, ⟨.opn h.n, by simp [hr], .inr ⟨h.n, rfl, by simp; omega, hP, by simp [show h.n ≠ 1 by omega, hgt]⟩, by simp; omega, by simp [hf0, g4]⟩, fun j hj hj1 hjt => ?_⟩
    rw [if_neg hj1]
    exact hfr j hj (fun hh => hjt (hkt j hh).2)
  · have hr : rl1 o (o.left L) w fr = [] := by simp only [rl1, tr1, if_neg hle, List.map_nil]
    rw [decide_eq_false hle] at hk
    simp [g43_rut_opened_l1, e3, e5, e9, e10, e11, hk, onB, onN, hr]
    exact ⟨kt, g1, g2, g3, g4⟩

def rl2 (o : Ob) (Q : List (Int × Int)) (w : Int) : List AV := rl1 o Q w 0 ++ rl1 o Q w 1
def rl (o : Ob) (Q : List (Int × Int)) : List AV := rl2 o Q o.low ++ rl2 o Q (o.low + 1)
theorem rl2_len (o Q w) : (rl2 o Q w).length ≤ 2 := by
  have := rl1_len o Q w 0; have := rl1_len o Q w 1; simp only [rl2, List.length_append]; omega
theorem rl2_mem {o : Ob} {Q w v} (h : v ∈ rl2 o Q w) : ∃ t : TrR, v = t.v o.c := by
  rcases List.mem_append.1 h with h | h <;> exact rl1_mem h
theorem rl_len (o Q) : (rl o Q).length ≤ 4 := by
  have := rl2_len o Q o.low; have := rl2_len o Q (o.low + 1); simp only [rl, List.length_append]; omega
theorem rl_mem {o : Ob} {Q v} (h : v ∈ rl o Q) : ∃ t : TrR, v = t.v o.c := by
  rcases List.mem_append.1 h with h | h <;> exact rl2_mem h
def rowB (o : Ob) (Q : List (Int × Int)) (w : Int) : AV → List AV
  | .int _ fr => rl1 o Q w fr
  | _ => []
def rowA (o : Ob) (Q : List (Int × Int)) : AV → List AV
  | .agg (.int _ w :: _) => rl2 o Q w
  | _ => []
theorem rowB_len (o Q w v) : (rowB o Q w v).length ≤ 1 := by unfold rowB; split; exact rl1_len ..; simp
theorem rowA_len (o Q v) : (rowA o Q v).length ≤ 2 := by unfold rowA; split; exact rl2_len ..; simp
theorem rowB_mem {o : Ob} {Q w x v} (h : v ∈ rowB o Q w x) : ∃ t : TrR, v = t.v o.c := by
  unfold rowB at h; split at h
  · exact rl1_mem h
  · simp at h
theorem rowA_mem {o : Ob} {Q x v} (h : v ∈ rowA o Q x) : ∃ t : TrR, v = t.v o.c := by
  unfold rowA at h; split at h
  · exact rl2_mem h
  · simp at h
theorem Col.mono {o : Ob} {h h' : H} {T : List AV} {P : Nat → Prop} (hC : Col o h T P) (hn : h.n ≤ h'.n) (h0 : h'.get 0 = h.get 0) (h1 : h'.get 1 = h.get 1) (ht : ∀ t, t < h.n → P t → h'.get t = h.get t) : Col o h' T P := by
  obtain ⟨kt, g1, g2, g3, g4⟩ := hC
  refine ⟨kt, by rw [h1]; exact g1, ?_, by omega, by rw [h0]; exact g4⟩
  rcases g2 with rfl | ⟨t, rfl, t1, t2, t3⟩
  · exact .inl rfl
  · exact .inr ⟨t, rfl, by omega, t2, by rw [ht t t1 t2]; exact t3⟩
theorem b3_ok (o : Ob) (ho : o.Ok) (L : List Int) (hL : (L.length : Int) ≤ 9223372036854775807) (w : Int) (hw : w = o.low ∨ w = o.low + 1) (T : List AV) (hT : T.length ≤ 4) (hT12 : ∀ v, v ∈ T → ∃ t : TrR, v = t.v o.c) (P : Nat → Prop)
    (e : Env) (h : H) (g : Nat) (e2 : e 2 = .cptr o.rc) (e3 : e 3 = .cptr [.sl (iv L) .shut]) (e5 : e 5 = .ptr 1 0) (e9 : e 9 = .cptr [.fn 72 [.agg (obr o (.mp 0) (.sl [] .exact))] []]) (e10 : e 10 = .lbox g [.int .i64 w, .int .i64 0, .int .i64 o.c])
    (hC : Col o h T P) (hP : ∀ t, h.n ≤ t → P t) (hP1 : ∀ t, P t → t ≠ 1) :
    wpr (den pr g43_rut_opened_b3 e h) fun oo e' h' => oo = .normal ∧ h.n ≤ h'.n ∧ Col o h' (T ++ rl2 o (o.left L) w) P ∧ ∀ j, j < h.n → ¬ j = 1 → h.get j ≠ some .tok → h'.get j = h.get j := by
  obtain ⟨kt, g1, g2, g3, g4⟩ := hC
  have hn1 : 1 < h.n := by omega
  have h74 := k74 o (.mp 0) (.sl T kt) rfl rfl h
  have hlow := ho.low
  simp [g43_rut_opened_b3, e5, e10, g1, hn1, h74]
  let P' : Nat → Prop := fun t => P t ∧ t ≠ h.n
  let U : List AV → H → Prop := fun d h' => Col o h' (T ++ d.flatMap (rowB o (o.left L) w)) P'
  have hC' : Col o h (T ++ ([] : List AV).flatMap (rowB o (o.left L) w)) P' := by
    simp only [List.flatMap_nil, List.append_nil]
    refine ⟨kt, g1, ?_, g3, g4⟩
    rcases g2 with rfl | ⟨t, rfl, t1, t2, t3⟩
    · exact .inl rfl
    · exact .inr ⟨t, rfl, t1, ⟨t2, by omega⟩, t3⟩
  have hI := k100 o (.mp 0) (.sl T kt) rfl rfl (h.n + 1) (fun _ => True) (fun _ => False) (fun _ hf => hf.elim) (fun _ _ _ _ _ => trivial) (fun _ _ _ hf => hf.elim)
  refine wpr_oblock (wpr_oblock (wpr_mono (range_iter U (fun j => j = 1) hI (by simp) (fun j hj hm => hm) (fun j hj => by omega) (fun j hj => hj.elim) (fun _ _ _ _ _ => trivial)
    (fun d h1 h2 hs hn' hc => Col.mono hc hn' (hs 0 (by have := hc; obtain ⟨_, _, _, q, _⟩ := this; omega) (fun hf => hf) (by omega)) (hs 1 (by obtain ⟨_, _, _, q, _⟩ := hc; omega) (fun hf => hf) (by omega)) (fun t ht hp => hs t ht (fun hf => hf) hp.2)) ?_ hC' trivial) ?_))
  · intro v hv
    have hfr : ∃ fr, v = .int .i64 fr ∧ (fr = 0 ∨ fr = 1) := by
      simp only [NW, List.mem_cons, List.not_mem_nil, or_false] at hv
      rcases hv with rfl | rfl
      · exact ⟨0, rfl, .inl rfl⟩
      · exact ⟨1, rfl, .inr rfl⟩
    obtain ⟨fr, rfl, hfr⟩ := hfr
    refine ⟨_, fun h' => by simp; rfl, ?_⟩
    intro d h' hd hn' hc
    have hdl := flatMap_len (rowB o (o.left L) w) 1 d (fun x _ => rowB_len ..)
    simp only [NW, List.length_cons, List.length_nil] at hd
    refine wpr_mono (b2_ok o ho L hL w fr hw hfr (T ++ d.flatMap (rowB o (o.left L) w)) (by simp only [List.length_append]; omega) (by
      intro x hx
      rcases List.mem_append.1 hx with hx | hx
      · exact hT12 x hx
      · obtain ⟨y, _, hy⟩ := List.mem_flatMap.1 hx
        exact rowB_mem hy) P' _ h' (by simp [e2]) (by simp [e3]) (by simp [e5]) (by simp [e9]) (by simp) (by simp) hc ⟨hP _ (by omega), by omega⟩ (fun t ht => hP1 t ht.1)) ?_
    rintro oo e2' h2 ⟨r1, r2, r3, r4⟩
    exact ⟨r1, r2, by simpa [U, rowB, List.flatMap_append] using r3, r4⟩
  · rintro oo e' h' ⟨rfl, rfl, hu, _, hn', hf⟩
    obtain ⟨kt', q1, q2, q3, q4⟩ := hu
    simp [onB]
    refine ⟨by omega, ⟨kt', by simpa [NW, rowB, rl2] using q1, ?_, q3, q4⟩, fun j hj hj1 ht => hf j hj hj1 (fun hf => hf) ht⟩
    rcases q2 with rfl | ⟨t, rfl, t1, t2, t3⟩
    · exact .inl rfl
    · exact .inr ⟨t, rfl, t1, t2.1, t3⟩
end Av
end

section
/- A book of ruts is opened: the contract. -/
set_option linter.unusedSimpArgs false
set_option linter.unusedVariables false
set_option maxRecDepth 8000
namespace Av
open Go (IntKind BinOp UnOp)
theorem rls_clean (c : Int) (d : List AV) (h : ∀ v ∈ d, ∃ t : TrR, v = t.v c) : cleans d = true := by
  induction d with
  | nil => rfl
  | cons v d ih =>
    obtain ⟨t, rfl⟩ := h v (by simp)
    have := ih (fun v hv => h v (by simp [hv]))
    simpa [cleans] using this
theorem k43 (o : Ob) (ho : o.Ok) (L : List Int) (hL : (L.length : Int) ≤ 9223372036854775807) : icall pr (.fn 43 [] []) [o.rv, .sl (iv L) .shut] = some (.agg (opr o (rl o (o.left L)))) := by
  have hlow := ho.low
  have hcl := rls_clean o.c (rl o (o.left L)) (fun v hv => rl_mem hv)
  refine icall_fn fn43 rfl rfl (by simp) (by simp [hcl]) ?_
  simp [g43_rut_opened, g43_rut_opened_c]
  refine wpr_seq (wpr_oblock ?_)
  rw [r_loop]
  simp [g43_rut_opened_l0, onB, onN]
  have h73 := fun h => k73 o (.mp 0) (.sl [] .exact) rfl rfl h
  simp [h73]
  refine wpr_seq (wpr_oblock ?_)
  let U : List AV → H → Prop := fun d h' => Col o h' (d.flatMap (rowA o (o.left L))) (fun t => 2 < t)
  have hI := k97 o ho (.mp 0) (.sl [] .exact) rfl rfl 3 (fun _ => True) (fun _ => False) (fun _ hf => hf.elim) (fun _ _ _ _ _ => trivial) (fun _ _ _ hf => hf.elim)
  refine wpr_mono (range_iter U (fun j => j = 1) hI (by simp) (fun j hj hm => hm) (fun j hj => by simp; omega) (fun j hj => hj.elim) (fun _ _ _ _ _ => trivial)
    (fun d h1 h2 hs hn' hc => Col.mono hc hn' (hs 0 (by obtain ⟨_, _, _, q, _⟩ := hc; omega) (fun hf => hf) (by simp)) (hs 1 (by obtain ⟨_, _, _, q, _⟩ := hc; omega) (fun hf => hf) (by simp)) (fun t ht hp => hs t ht (fun hf => hf) (by simp; omega))) ?_ ⟨.exact, by simp, .inl rfl, by simp, by simp⟩ trivial) ?_
  · intro v hv
    have hw : ∃ w, v = wv w o.c ∧ (w = o.low ∨ w = o.low + 1) := by
      simp only [CW, List.mem_cons, List.not_mem_nil, or_false] at hv
      rcases hv with rfl | rfl
      · exact ⟨_, rfl, .inl rfl⟩
      · exact ⟨_, rfl, .inr rfl⟩
    obtain ⟨w, rfl, hw⟩ := hw
    refine ⟨_, fun h' => by simp; rfl, ?_⟩
    intro d h' hd hn' hc
    have hdl := flatMap_len (rowA o (o.left L)) 2 d (fun x _ => rowA_len ..)
    simp only [CW, List.length_cons, List.length_nil] at hd
    simp at hn'
    refine wpr_mono (b3_ok o ho L hL w hw (d.flatMap (rowA o (o.left L))) (by omega) (by
      intro x hx
      obtain ⟨y, _, hy⟩ := List.mem_flatMap.1 hx
      exact rowA_mem hy) (fun t => 2 < t) _ h' _ (by simp) (by simp) (by simp) (by simp) (by simp; rfl) hc (fun t ht => by omega) (fun t ht => by omega)) ?_
    rintro oo e2' h2 ⟨r1, r2, r3, r4⟩
    exact ⟨r1, r2, by simpa [U, rowA, List.flatMap_append] using r3, r4⟩
  · rintro oo e' h' ⟨rfl, rfl, ⟨kt', q1, q2, q3, q4⟩, _, hn', hf⟩
    have hn1 : 1 < h'.n := by omega
    simp [onB, onN, q1, hn1, results, rdRess, rdRes, q4, rl, CW, rowA]
end Av
end

section
/- Contracts of rut: what is told of all truths. -/
set_option linter.unusedSimpArgs false
set_option linter.unusedVariables false
set_option maxRecDepth 8000
namespace Av
open Go (IntKind BinOp UnOp)

@[simp] theorem glob3 : pr.glob 3 = [.fn 144 [] [], .fn 150 [] []] := rfl
/-- all truths of a book of ruts, as data -/
def rt (o : Ob) (Q : List (Int × Int)) : List TrR := (tr1 o Q o.low 0 ++ tr1 o Q o.low 1) ++ (tr1 o Q (o.low + 1) 0 ++ tr1 o Q (o.low + 1) 1)
theorem rl_rt (o : Ob) (Q : List (Int × Int)) : rl o Q = (rt o Q).map (TrR.v o.c) := by simp [rl, rl2, rl1, rt]
theorem rt_len (o : Ob) (Q : List (Int × Int)) : (rt o Q).length ≤ 4 := by have := rl_len o Q; rw [rl_rt] at this; simpa using this
theorem mem_tr1 {o : Ob} {Q : List (Int × Int)} {w fr : Int} {t : TrR} : t ∈ tr1 o Q w fr ↔ loR Q o.a (w + fr * o.c) ≤ hiR Q o.z (w + fr * o.c) ∧ t = o.rr Q w fr := by
  unfold tr1; split
  · rename_i h; simp [h]
  · rename_i h; simp [h]
theorem mem_rt {o : Ob} {Q : List (Int × Int)} {t : TrR} : t ∈ rt o Q ↔ ∃ w fr, (w = o.low ∨ w = o.low + 1) ∧ (fr = 0 ∨ fr = 1) ∧ loR Q o.a (w + fr * o.c) ≤ hiR Q o.z (w + fr * o.c) ∧ t = o.rr Q w fr := by
  simp only [rt, List.mem_append, mem_tr1]
  constructor
  · rintro ((⟨h1, h2⟩ | ⟨h1, h2⟩) | (⟨h1, h2⟩ | ⟨h1, h2⟩))
    · exact ⟨_, _, .inl rfl, .inl rfl, h1, h2⟩
    · exact ⟨_, _, .inl rfl, .inr rfl, h1, h2⟩
    · exact ⟨_, _, .inr rfl, .inl rfl, h1, h2⟩
    · exact ⟨_, _, .inr rfl, .inr rfl, h1, h2⟩
  · rintro ⟨w, fr, rfl | rfl, rfl | rfl, h1, h2⟩
    · exact .inl (.inl ⟨h1, h2⟩)
    · exact .inl (.inr ⟨h1, h2⟩)
    · exact .inr (.inl ⟨h1, h2⟩)
    · exact .inr (.inr ⟨h1, h2⟩)
theorem k43n (o : Ob) (ho : o.Ok) : icall pr (.fn 43 [] []) [o.rv, .sl [] .shut] = some (.agg (opr o (rl o o.q))) := by
  have h1 := k43 o ho [] (by simp)
  rw [o.left_nil] at h1
  exact h1
def Ob.so (o : Ob) : Bool := decide (rt o o.q ≠ [])
theorem rl_pos (o : Ob) (Q : List (Int × Int)) : (0 < (rl o Q).length) = (rt o Q ≠ []) := by
  rw [rl_rt, List.length_map]; apply propext; rw [List.length_pos_iff]
theorem k11 (o : Ob) (ho : o.Ok) : icall pr (.fn 11 [] []) [o.rv] = some (.tup [.bool o.so, .int .i64 0]) := by
  have h1 := k43n o ho
  have hc := k9 o ho
  have hp := rl_pos o o.q
  refine icall_fn fn11 rfl rfl (by simp) rfl ?_
  simp [g11_rut_Right, g11_rut_Right_c, hc, h1, results, rdRess, rdRes, Ob.so, ← hp]
theorem opr_clean (o : Ob) (Q : List (Int × Int)) : cleans (opr o (rl o Q)) = true := by
  have := rls_clean o.c (rl o Q) (fun v hv => rl_mem hv)
  simp [this]
theorem k48 (o : Ob) (ho : o.Ok) (hT : rt o o.q ≠ []) : icall pr (.fn 48 [] []) [o.rv, .bool true] = some (.tup [.agg (opr o (rl o o.q)), .int .i64 0]) := by
  have h1 := k43n o ho
  have hc := k9 o ho
  have hcl := rls_clean o.c (rl o o.q) (fun v hv => rl_mem hv)
  have hz : ¬ (rl o o.q) = [] := by
    intro h; rw [rl_rt, List.map_eq_nil_iff] at h; exact hT h
  refine icall_fn fn48 rfl rfl (by simp) (by simp [hcl]) ?_
  simp [g48_rut_asked, g48_rut_asked_c, hc, h1, results, rdRess, rdRes, hz]
def loT' (g : TrR → Int) (x : Int) (T : List TrR) : Int := T.foldl (fun a t => min a (g t)) x
def hiT' (g : TrR → Int) (x : Int) (T : List TrR) : Int := T.foldl (fun a t => max a (g t)) x
theorem k51 (o : Ob) (f : AV) (hf : f.clean = true) (hff : f.flat = true) (hfe : evt f = some f) (hfs : f.shutv = f) (g1 g2 : TrR → Int) (hg : ∀ t, t ∈ rt o o.q → icall pr f [t.v o.c] = some (.agg [.int .i64 (g1 t), .int .i64 (g2 t)]))
    (t0 : TrR) (ht0 : (rt o o.q)[0]? = some t0) : icall pr (.fn 51 [] []) [.agg (opr o (rl o o.q)), f] = some (.agg [.int .i64 (loT' g1 (g1 t0) (rt o o.q)), .int .i64 (hiT' g2 (g2 t0) (rt o o.q))]) := by
  have hlen := rt_len o o.q
  have htt := rl_rt o o.q
  have hcl := rls_clean o.c (rl o o.q) (fun v hv => rl_mem hv)
  have hg0 := hg t0 (List.mem_of_getElem? ht0)
  rw [htt] at hcl
  refine icall_fn fn51 rfl rfl (by simp [hf, htt, hcl]) rfl ?_
  generalize hT : rt o o.q = T at *
  have hfc : f.cells = [f] := by cases f <;> first | rfl | cases hff
  simp only [TrR.v, TrR.c] at hg0
  simp [g51_rut_book_told, g51_rut_book_told_c, htt, hff, hfc, hfe, ht0, hg0]
  refine wpr_seq (wpr_oblock (loop_up pr (fun k e h => e 1 = f ∧ e 4 = .lbox 0 [.int .i64 0, .int .i64 0] ∧ e 16 = .sl (T.map (TrR.v o.c)) .shut ∧ e 17 = .int .i64 T.length ∧ e 18 = .int .i64 k ∧
    e 5 = .lbox 0 [.int .i64 (loT' g1 (g1 t0) (T.take k)), .int .i64 (hiT' g2 (g2 t0) (T.take k))]) T.length ?_ ?_ 0 _ _ (by omega) ⟨by simp, by simp, by simp, by simp, by simp, by simp [loT', hiT']⟩))
  · rintro k e h hk2 ⟨e1, e4, e16, e17, e18, e5⟩
    have hw : IntKind.wrap .i64 ((k : Int) + 1) = k + 1 := wrap_id (by omega) (by omega)
    have hgk := hg T[k] (List.getElem_mem _)
    simp only [TrR.v, TrR.c] at hgk
    have h1 : loT' g1 (g1 t0) (T.take (k + 1)) = min (loT' g1 (g1 t0) (T.take k)) (g1 T[k]) := by
      rw [List.take_add_one, List.getElem?_eq_getElem hk2]; simp only [loT', Option.toList, List.foldl_append, List.foldl_cons, List.foldl_nil]
    have h2 : hiT' g2 (g2 t0) (T.take (k + 1)) = max (hiT' g2 (g2 t0) (T.take k)) (g2 T[k]) := by
      rw [List.take_add_one, List.getElem?_eq_getElem hk2]; simp only [hiT', Option.toList, List.foldl_append, List.foldl_cons, List.foldl_nil]
    simp [g51_rut_book_told_l0, e1, e4, e16, e17, e18, e5, hk2, hw, hfe, hgk, h1, h2]
  · rintro e h ⟨e1, e4, e16, e17, e18, e5⟩
    rw [List.take_length] at e5
    simp [g51_rut_book_told_l0, e1, e4, e16, e17, e18, e5, onB, onN, results, rdRess, rdRes]
end Av
end

section
/- Contracts of rut: Deep, Wears, Frost, Surely. -/
set_option linter.unusedSimpArgs false
set_option linter.unusedVariables false
set_option maxRecDepth 8000
namespace Av
open Go (IntKind BinOp UnOp)

theorem rt_bd {o : Ob} (ho : o.Ok) {t : TrR} (h : t ∈ rt o o.q) : (0 ≤ t.w ∧ t.w ≤ 4) ∧ (t.fr = 0 ∨ t.fr = 1) ∧ (0 ≤ t.lo ∧ t.lo ≤ 700) ∧ (-700 ≤ t.hi ∧ t.hi ≤ 700) ∧ 0 ≤ t.w + t.fr * o.c ∧ t.w + t.fr * o.c ≤ 8 := by
  obtain ⟨w, fr, hw, hf, hle, rfl⟩ := mem_rt.1 h
  have hl := ho.low; have hc := ho.c; have ha := ho.az
  have hn : 0 ≤ w + fr * o.c ∧ w + fr * o.c ≤ 8 := by rcases hf with rfl | rfl <;> omega
  have h1 := loR_bd o.q ho.q _ hn o.a (by omega)
  have h2 := hiR_bd o.q ho.q _ hn o.z (by omega)
  exact ⟨by simp only [Ob.rr]; omega, hf, h1, h2, hn⟩
def TrR.n (c : Int) (t : TrR) : Int := t.w + t.fr * c
abbrev deepV (bk : List AV) : AV := .fn 76 [] [.cptr bk, .cptr [.int .i64 0], .cptr [.int .i64 0]]
theorem k76 (o : Ob) (ho : o.Ok) (t : TrR) (ht : t ∈ rt o o.q) : icall pr (deepV (opr o (rl o o.q))) [t.v o.c] = some (.agg [.int .i64 (t.lo + t.n o.c), .int .i64 (t.hi + t.n o.c)]) := by
  obtain ⟨h1, h2, h3, h4, h5⟩ := rt_bd ho ht
  have hcl := rls_clean o.c (rl o o.q) (fun v hv => rl_mem hv)
  have h77 := k77 o (rl o o.q) hcl t.w o.c t.fr h1 ho.c h2
  have w1 : IntKind.wrap .i64 (t.lo + (t.w + t.fr * o.c)) = t.lo + (t.w + t.fr * o.c) := wrap_id (by omega) (by omega)
  have w2 : IntKind.wrap .i64 (t.hi + (t.w + t.fr * o.c)) = t.hi + (t.w + t.fr * o.c) := wrap_id (by omega) (by omega)
  refine icall_fn fn76 rfl (by simp [hcl]) (by simp) rfl ?_
  simp [g76_rut_book_deep_1, g76_rut_book_deep_1_c, h77, w1, w2, results, rdRess, rdRes, TrR.n]
def dLo (o : Ob) (t0 : TrR) : Int := loT' (fun t => t.lo + t.n o.c) (t0.lo + t0.n o.c) (rt o o.q)
def dHi (o : Ob) (t0 : TrR) : Int := hiT' (fun t => t.hi + t.n o.c) (t0.hi + t0.n o.c) (rt o o.q)
theorem k49 (o : Ob) (ho : o.Ok) (t0 : TrR) (ht0 : (rt o o.q)[0]? = some t0) : icall pr (.fn 49 [] []) [.agg (opr o (rl o o.q)), .int .i64 0, .int .i64 0] = some (.agg [.int .i64 (dLo o t0), .int .i64 (dHi o t0)]) := by
  have hcl := rls_clean o.c (rl o o.q) (fun v hv => rl_mem hv)
  have h51 := k51 o (deepV (opr o (rl o o.q))) (by simp [hcl]) rfl rfl rfl _ _ (fun t ht => k76 o ho t ht) t0 ht0
  refine icall_fn fn49 rfl rfl (by simp [hcl]) rfl ?_
  simp [g49_rut_book_deep, g49_rut_book_deep_c, h51, results, rdRess, rdRes, dLo, dHi]
theorem k16 (o : Ob) (ho : o.Ok) (t0 : TrR) (ht0 : (rt o o.q)[0]? = some t0) : icall pr (.fn 16 [] []) [o.rv, .int .i64 0, .int .i64 0] = some (.tup [.agg [.int .i64 (dLo o t0), .int .i64 (dHi o t0)], .int .i64 0]) := by
  have hT : rt o o.q ≠ [] := by intro h; rw [h] at ht0; cases ht0
  have h48 := k48 o ho hT
  have h39 := k39 o
  have h40 := k40 o
  have h49 := k49 o ho t0 ht0
  refine icall_fn fn16 rfl rfl (by simp) rfl ?_
  simp [g16_rut_Deep, g16_rut_Deep_c, h39, h40, h48, h49, results, rdRess, rdRes]
theorem k52 (o : Ob) (t : TrR) : icall pr (.fn 52 [] [.cptr [.int .i64 0]]) [t.v o.c] = some (.agg [.int .i64 t.w, .int .i64 t.w]) := by
  refine icall_fn fn52 rfl rfl (by simp) rfl ?_
  simp [g52_rut_Wears_1, g52_rut_Wears_1_c, results, rdRess, rdRes]
theorem k18 (o : Ob) (ho : o.Ok) (t0 : TrR) (ht0 : (rt o o.q)[0]? = some t0) : icall pr (.fn 18 [] []) [o.rv, .int .i64 0] = some (.tup [.agg [.int .i64 (loT' (·.w) t0.w (rt o o.q)), .int .i64 (hiT' (·.w) t0.w (rt o o.q))], .int .i64 0]) := by
  have hT : rt o o.q ≠ [] := by intro h; rw [h] at ht0; cases ht0
  have h48 := k48 o ho hT
  have h51 := k51 o (.fn 52 [] [.cptr [.int .i64 0]]) rfl rfl rfl rfl (·.w) (·.w) (fun t _ => k52 o t) t0 ht0
  refine icall_fn fn18 rfl rfl (by simp) rfl ?_
  simp [g18_rut_Wears, g18_rut_Wears_c, k37, h48, h51, results, rdRess, rdRes]
theorem k54 (o : Ob) (t : TrR) (hf : t.fr = 0 ∨ t.fr = 1) : icall pr (.fn 54 [] [.cptr [.int .i64 0]]) [t.v o.c] = some (.agg [.int .i64 t.fr, .int .i64 t.fr]) := by
  have b1 : bin .shr (.int .i64 t.fr) (.int .i64 0) = some (.int .i64 t.fr) := by rcases hf with h | h <;> rw [h] <;> rfl
  have b2 : bin .and (.int .i64 t.fr) (.int .i64 1) = some (.int .i64 t.fr) := by rcases hf with h | h <;> rw [h] <;> rfl
  refine icall_fn fn54 rfl rfl (by simp) rfl ?_
  simp [g54_rut_Frost_1, g54_rut_Frost_1_c, b1, b2, results, rdRess, rdRes]
def frost (o : Ob) (t0 : TrR) : Int := loT' (·.fr) t0.fr (rt o o.q) + hiT' (·.fr) t0.fr (rt o o.q)
theorem loT'_bd (g : TrR → Int) (T : List TrR) : ∀ x, (0 ≤ x ∧ x ≤ 1) → (∀ t ∈ T, 0 ≤ g t ∧ g t ≤ 1) → 0 ≤ loT' g x T ∧ loT' g x T ≤ 1 := by
  induction T with
  | nil => intro x hx _; exact hx
  | cons t T ih =>
    intro x hx h
    have := h t (by simp)
    exact ih (min x (g t)) (by omega) (fun t ht => h t (by simp [ht]))
theorem hiT'_bd (g : TrR → Int) (T : List TrR) : ∀ x, (0 ≤ x ∧ x ≤ 1) → (∀ t ∈ T, 0 ≤ g t ∧ g t ≤ 1) → 0 ≤ hiT' g x T ∧ hiT' g x T ≤ 1 := by
  induction T with
  | nil => intro x hx _; exact hx
  | cons t T ih =>
    intro x hx h
    have := h t (by simp)
    exact ih (max x (g t)) (by omega) (fun t ht => h t (by simp [ht]))
theorem k20 (o : Ob) (ho : o.Ok) (t0 : TrR) (ht0 : (rt o o.q)[0]? = some t0) : icall pr (.fn 20 [] []) [o.rv, .int .i64 0] = some (.tup [.int .i64 (frost o t0), .int .i64 0]) := by
  have hT : rt o o.q ≠ [] := by intro h; rw [h] at ht0; cases ht0
  have h48 := k48 o ho hT
  have h40 := k40 o
  have hb : ∀ t ∈ rt o o.q, 0 ≤ t.fr ∧ t.fr ≤ 1 := fun t ht => by have := (rt_bd ho ht).2.1; omega
  have h51 := k51 o (.fn 54 [] [.cptr [.int .i64 0]]) rfl rfl rfl rfl (·.fr) (·.fr) (fun t ht => k54 o t (rt_bd ho ht).2.1) t0 ht0
  have hb0 := hb t0 (List.mem_of_getElem? ht0)
  have b1 := loT'_bd (·.fr) (rt o o.q) t0.fr hb0 hb
  have b2 := hiT'_bd (·.fr) (rt o o.q) t0.fr hb0 hb
  have w1 : IntKind.wrap .i64 (loT' (·.fr) t0.fr (rt o o.q) + hiT' (·.fr) t0.fr (rt o o.q)) = loT' (·.fr) t0.fr (rt o o.q) + hiT' (·.fr) t0.fr (rt o o.q) := wrap_id (by omega) (by omega)
  refine icall_fn fn20 rfl rfl (by simp) rfl ?_
  simp [g20_rut_Frost, g20_rut_Frost_c, h40, h48, h51, w1, frost, results, rdRess, rdRes]
theorem k150 (o : Ob) (ho : o.Ok) (t0 : TrR) (ht0 : (rt o o.q)[0]? = some t0) : icall pr (.fn 150 [] []) [.agg (opr o (rl o o.q)), .int .i64 0, .int .i64 0] = some (.bool (decide (o.due < dLo o t0))) := by
  have hcl := rls_clean o.c (rl o o.q) (fun v hv => rl_mem hv)
  have h49 := k49 o ho t0 ht0
  refine icall_fn fn150 rfl rfl (by simp [hcl]) rfl ?_
  simp [g150_rut_book_must, g150_rut_book_must_c, k95, k116, h49, results, rdRess, rdRes]
theorem k58 (o : Ob) (ho : o.Ok) (t0 : TrR) (ht0 : (rt o o.q)[0]? = some t0) : icall pr (.fn 58 [] []) [o.rv, .int .i64 0, .int .i64 1] = some (.tup [.int .i64 0, .int .i64 (if o.due < dLo o t0 then 0 else 4)]) := by
  have hT : rt o o.q ≠ [] := by intro h; rw [h] at ht0; cases ht0
  have h48 := k48 o ho hT
  have h39 := k39 o
  have h150 := k150 o ho t0 ht0
  refine icall_fn fn58 rfl rfl (by simp) rfl ?_
  simp [g58_rut_first, g58_rut_first_c, h39, h48]
  refine wpr_seq (wpr_oblock ?_)
  rw [r_loop]
  by_cases hlt : o.due < dLo o t0
  · simp [g58_rut_first_l0, h150, hlt, onB, onN, results, rdRess, rdRes]
  · simp [g58_rut_first_l0, h150, hlt]
    rw [r_loop]
    simp [g58_rut_first_l0, onB, onN, results, rdRess, rdRes]
theorem k22 (o : Ob) (ho : o.Ok) (t0 : TrR) (ht0 : (rt o o.q)[0]? = some t0) : icall pr (.fn 22 [] []) [o.rv, .int .i64 0] = some (.tup [.int .i64 0, .int .i64 (if o.due < dLo o t0 then 0 else 4)]) := by
  have h58 := k58 o ho t0 ht0
  refine icall_fn fn22 rfl rfl (by simp) rfl ?_
  simp [g22_rut_Surely, g22_rut_Surely_c, h58, results, rdRess, rdRes]
end Av
end

section
/- Contracts of rut: Fits, Wrong. -/
set_option linter.unusedSimpArgs false
set_option linter.unusedVariables false
set_option maxRecDepth 8000
namespace Av
open Go (IntKind BinOp UnOp)

theorem k25 (o : Ob) (ho : o.Ok) (h4 : o.q.length ≤ 4) (hT : rt o o.q ≠ []) (n : Int) (hn : 0 ≤ n ∧ n ≤ 600) :
    icall pr (.fn 25 [] []) [o.rv, stf (n, 0)] = some (.tup [.bool (o.more n).so, .int .i64 0]) := by
  have h48 := k48 o ho hT
  have hm := more_ok ho h4 hn
  have h42 := k43n (o.more n) hm
  have h28 := k41 o (n, 0) (by simp; omega)
  have hp := rl_pos (o.more n) (o.more n).q
  obtain ⟨h', ha, hn', hgt, hf⟩ := app_okT (h := H.emp) (sz := 4) (bytes := 32) (es := stfs o.q) (k := .exact) (new := [stf (n, 0)]) (k2 := .exact) (.inl rfl) (by simp) (stfs_cell _) (by simp) (by simp; omega)
  have hq : stfs o.q ++ [stf (n, 0)] = stfs (o.more n).q := by simp [stfs, Ob.more]
  have htk : List.take o.q.length (stfs o.q) = stfs o.q := List.take_of_length_le (by simp)
  have hsl : oslice 4 none (some (some (.int .i64 o.q.length))) (some (some (.int .i64 o.q.length))) (some (.sl (stfs o.q) .shut)) = some (.sl (stfs o.q) .exact, none) := by
    rw [oslice_s, if_pos (stfs_cell _)]
    simp [htk]
  refine icall_fn fn25 rfl rfl (by simp) rfl ?_
  simp [g25_rut_Fits, g25_rut_Fits_c, h28, h48, hsl, - oslice_s, ha]
  rw [hq]
  have h42' : icall pr (.fn 43 [] []) [.agg [.sl [.agg [.int .i64 o.a, .int .i64 o.z]] .shut, .int .i64 o.low, .int .i64 (o.low + 1), .int .i64 0, .int .i64 0, .int .i64 o.c, .int .i64 o.c,
    .sl [.agg [.int .i64 1, .int .i64 0, .int .i64 1]] .shut, .sl [] .shut, .sl (stfs (o.more n).q) .shut, .int .i64 o.due], .sl [] .shut] = some (.agg (opr (o.more n) (rl (o.more n) (o.more n).q))) := h42
  simp [h42', results, rdRess, rdRes, Ob.so, ← hp]
/-- can all staffs but some be right? -/
def canR (o : Ob) (l : List Int) : Bool := decide (rt o (o.left l) ≠ [])
abbrev chV (o : Ob) (c : Nat) : AV := .fn 45 [] [.cptr o.rc, .ptr c 0]
theorem choose_ok (o : Ob) (ho : o.Ok) (c : Nat) : ∀ (d many : Nat) (l : List Int) (kk : SK) (h : H), l.length + d = many → many ≤ o.q.length → (∀ x ∈ l, 0 ≤ x ∧ x < o.q.length) →
    h.get c = some (.cells [chV o c]) → c < h.n →
    ∃ w h', dcall pr (chV o c) [.sl (iv l) kk, .int .i64 many] h = some (w, h') ∧ ∃ es k', w = .tup [.sl es k', .bool (chooseP (canR o) o.q.length d l).isSome] ∧ h'.get c = some (.cells [chV o c]) ∧ c < h'.n ∧ ∀ l', chooseP (canR o) o.q.length d l = some l' → es = iv l' := by
  intro d
  induction d with
  | zero =>
    intro many l kk h hd hm hx hc hn
    have hlen := ho.len
    have hlm : many = l.length := by omega
    subst hlm
    have h42 := k43 o ho l (by omega)
    have hp := rl_pos o (o.left l)
    refine dcall_of fn45 rfl ?_
    simp [g45_rut_Wrong_1, g45_rut_Wrong_1_c, h42, results, rdRess, rdRes, chooseP]
    have hcan : canR o l = decide (0 < (rl o (o.left l)).length) := by simp only [canR, hp]
    rw [← hcan]
    cases canR o l <;> simp [hc, hn]
  | succ d ih =>
    intro many l kk h hd hm hx hc hn
    have hlen := ho.len
    have hne : ¬ (l.length : Int) = many := by omega
    refine dcall_of fn45 rfl ?_
    let g : Nat → Option (List Int) := fun (n : Nat) => if fromI l ≤ (n : Int) then chooseP (canR o) o.q.length d (l ++ [(n : Int)]) else none
    have hg : chooseP (canR o) o.q.length (d + 1) l = (List.range o.q.length).findSome? g := rfl
    rw [hg]
    have hfr : 0 ≤ fromI l ∧ fromI l ≤ o.q.length := by
      cases l with
      | nil => simp [fromI]
      | cons x l =>
        have : (x :: l).getD l.length 0 ∈ x :: l := by
          rw [List.getD_eq_getElem?_getD, List.getElem?_eq_getElem (by simp)]
          exact List.getElem_mem _
        have := hx _ this
        simp only [fromI]; omega
    have key : ∀ e : Env, e 0 = .sl (iv l) kk → e 1 = .int .i64 many → e 2 = .cptr o.rc → e 3 = .ptr c 0 → e 8 = .int .i64 l.length → e 10 = .int .i64 (fromI l) →
        wpr (den pr (.loop g45_rut_Wrong_1_l0) e h) fun oo e' h' => h'.get c = some (.cells [chV o c]) ∧ c < h'.n ∧
          (match (List.range o.q.length).findSome? g with | some l' => oo = .ret ∧ e' 7 = .bool true ∧ ∃ k', e' 6 = .sl (iv l') k' | none => oo = .exit 0) := by
      intro e e0 e1 e2 e3 e8 e10
      obtain ⟨n0, hn0⟩ := Int.eq_ofNat_of_zero_le hfr.1
      refine loop_up pr (fun k e' h' => e' 0 = e 0 ∧ e' 1 = e 1 ∧ e' 2 = e 2 ∧ e' 3 = e 3 ∧ e' 8 = e 8 ∧ e' 10 = .int .i64 k ∧ n0 ≤ k ∧ (List.range k).findSome? g = none ∧ h'.get c = some (.cells [chV o c]) ∧ c < h'.n) o.q.length ?_ ?_ n0 e h (by omega)
        ⟨rfl, rfl, rfl, rfl, rfl, by rw [e10, hn0], Nat.le_refl _, findSome_none _ _ (fun n hnn => by simp only [g]; rw [if_neg (by omega)]), hc, hn⟩
      · rintro k e' h' hk ⟨q0, q1, q2, q3, q8, q10, hk0, hno, hcc, hcn⟩
        rw [e0] at q0; rw [e1] at q1; rw [e2] at q2; rw [e3] at q3; rw [e8] at q8
        have hw : IntKind.wrap .i64 ((k : Int) + 1) = k + 1 := wrap_id (by omega) (by omega)
        obtain ⟨h2, ha, hn2, hgt, hfr2⟩ := app_okT (h := h') (k := .exact) (bytes := 8) (new := [.int .i64 k]) (k2 := .exact) (sz := 1) (es := iv l) (.inl rfl) (by simp) (iv_cell1 _) (by simp) (by simp; omega)
        have hcc2 : h2.get c = some (.cells [chV o c]) := by rw [hfr2 c hcn (by simp)]; exact hcc
        obtain ⟨w, h3, hd3, es3, k3, rfl, hcc3, hcn3, hv⟩ := ih many (l ++ [(k : Int)]) (.opn h'.n) h2 (by simp; omega) hm (by
          intro x hxx
          rcases List.mem_append.1 hxx with h1 | h1
          · exact hx x h1
          · simp at h1; subst h1; omega) hcc2 (by omega)
        have ht : (iv l).take l.length = iv l := List.take_of_length_le (by simp)
        have hgk : g k = chooseP (canR o) o.q.length d (l ++ [(k : Int)]) := by simp only [g]; rw [if_pos (by omega)]
        have hs := findSome_succ g k hno
        rw [hgk] at hs
        simp at ha hd3
        simp only [e0, e1, e2, e3, e8]
        cases hch : chooseP (canR o) o.q.length d (l ++ [(k : Int)]) with
        | none =>
          rw [hch] at hs hd3
          simp only [Option.isSome_none] at hd3
          simp [g45_rut_Wrong_1_l0, q0, q1, q2, q3, q8, q10, hk, hcc, hcn, ht, ha, hd3, hw, hs, hcc3, hcn3]
          omega
        | some l' =>
          have hv' := hv l' hch
          subst hv'
          rw [hch] at hs hd3
          simp only [Option.isSome_some] at hd3
          rw [findSome_pre g (k + 1) o.q.length l' (by omega) hs]
          simp [g45_rut_Wrong_1_l0, q0, q1, q2, q3, q8, q10, hk, hcc, hcn, ht, ha, hd3, hw, hs, hcc3, hcn3, onB]
      · rintro e' h' ⟨q0, q1, q2, q3, q8, q10, hk0, hno, hcc, hcn⟩
        rw [e2] at q2
        simp [g45_rut_Wrong_1_l0, q2, q10, hno, hcc, hcn]
    cases l with
    | nil =>
      simp [g45_rut_Wrong_1, g45_rut_Wrong_1_c] at hne ⊢
      simp [hne]
      refine wpr_seq (wpr_oblock (wpr_mono (key _ rfl rfl rfl rfl rfl rfl) ?_))
      rintro oo e h' ⟨hcc, hcn, hr⟩
      cases hf : (List.range o.q.length).findSome? g with
      | none => rw [hf] at hr; subst hr; simp [onB, onN, results, rdRess, rdRes, hcc, hcn]
      | some l' =>
        rw [hf] at hr
        obtain ⟨rfl, q7, k', q6⟩ := hr
        simp [onB, onN, results, rdRess, rdRes, q6, q7, hcc, hcn]
    | cons x l =>
      have hel : (iv (x :: l))[l.length]? = some (.int .i64 ((x :: l).getD l.length 0)) := by
        rw [iv_get, List.getD_eq_getElem?_getD, List.getElem?_eq_getElem (by simp)]; rfl
      have hw1 : IntKind.wrap .i64 (((x :: l).length : Int) - 1) = (l.length : Int) := by
        rw [wrap_id (by simp only [List.length_cons]; omega) (by simp at hd ⊢; omega)]; simp
      have hw2 : IntKind.wrap .i64 ((x :: l).getD l.length 0 + 1) = fromI (x :: l) := by
        simp only [fromI] at hfr ⊢; exact wrap_id (by omega) (by omega)
      generalize hL : x :: l = L at *
      have hpos : 0 < L.length := by rw [← hL]; simp
      generalize (L.getD l.length 0) = z at *
      simp only [iv_get] at hel
      obtain ⟨y, hy, hyz⟩ := Option.map_eq_some_iff.1 hel
      injection hyz with _ hyz
      subst hyz
      simp [g45_rut_Wrong_1, g45_rut_Wrong_1_c, hne, hpos, hw1, hw2, hy]
      refine wpr_seq (wpr_oblock (wpr_mono (key _ rfl rfl rfl rfl rfl rfl) ?_))
      rintro oo e h' ⟨hcc, hcn, hr⟩
      cases hf : (List.range o.q.length).findSome? g with
      | none => rw [hf] at hr; subst hr; simp [onB, onN, results, rdRess, rdRes, hcc, hcn]
      | some l' =>
        rw [hf] at hr
        obtain ⟨rfl, q7, k', q6⟩ := hr
        simp [onB, onN, results, rdRess, rdRes, q6, q7, hcc, hcn]

theorem k13 (o : Ob) (ho : o.Ok) : icall pr (.fn 13 [] []) [o.rv] = some (.tup [.sl (iv (wrongL (canR o) o.q.length)) .shut, .int .i64 0]) := by
  have hlen := ho.len
  have hc := k9 o ho
  refine icall_fn fn13 rfl (by simp) (by simp) (by simp) ?_
  have hw0 : IntKind.wrap .i64 ((o.q.length : Int) + 1) = o.q.length + 1 := wrap_id (by omega) (by omega)
  simp [g13_rut_Wrong, g13_rut_Wrong_c, hc, hw0]
  refine wpr_seq (wpr_oblock (loop_up pr (fun k e h => e 5 = .ptr 0 0 ∧ e 18 = .int .i64 ((o.q.length : Int) + 1) ∧ e 19 = .int .i64 k ∧ (List.range k).findSome? (fun many => chooseP (canR o) o.q.length many []) = none ∧ h.get 0 = some (.cells [chV o 0]) ∧ 0 < h.n) (o.q.length + 1) ?_ ?_ 0 _ _ (by omega) ⟨rfl, rfl, rfl, rfl, rfl, by simp⟩))
  · rintro k e h hk ⟨e5, e18, e19, hno, hcc, hcn⟩
    have hw : IntKind.wrap .i64 ((k : Int) + 1) = k + 1 := wrap_id (by omega) (by omega)
    have hk2 : (k : Int) < (o.q.length : Int) + 1 := by omega
    obtain ⟨w, h3, hd3, es3, k3, rfl, hcc3, hcn3, hv⟩ := choose_ok o ho 0 k k [] .exact h (by simp) (by omega) (by simp) hcc hcn
    have hs := findSome_succ (fun many => chooseP (canR o) o.q.length many []) k hno
    simp at hd3
    cases hch : chooseP (canR o) o.q.length k [] with
    | none =>
      rw [hch] at hs hd3
      simp only [Option.isSome_none] at hd3
      simp [g13_rut_Wrong_l0, e5, e18, e19, hcc, hcn, hk2, hd3, hw, hcc3, hcn3]
      simpa using hs
    | some l' =>
      have hv' := hv l' hch
      subst hv'
      rw [hch] at hs hd3
      simp only [Option.isSome_some] at hd3
      have hw' : wrongP (canR o) o.q.length = some l' := findSome_pre _ (k + 1) (o.q.length + 1) l' (by omega) hs
      have ht : (iv l').take l'.length = iv l' := List.take_of_length_le (by simp)
      simp [g13_rut_Wrong_l0, e5, e18, e19, hcc, hcn, hk2, hd3, hw, wrongL, hw', onB, onN, results, rdRess, rdRes, ht]
  · rintro e h ⟨e5, e18, e19, hno, hcc, hcn⟩
    have hw' : wrongP (canR o) o.q.length = none := hno
    simp [g13_rut_Wrong_l0, e5, e18, e19, wrongL, hw', onB, onN, results, rdRess, rdRes]
end Av
end
