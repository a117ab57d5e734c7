/- Contracts of the layer of stone, second part: the conditions stand in each statement. -/
import Derived.KernelRfl
import Derived.Test.YtpjhmbfpfbpciaaDoorAvMI
set_option linter.all false
set_option linter.unusedSectionVars false
set_option linter.unusedVariables false
set_option linter.unusedSimpArgs false
set_option linter.unnecessarySimpa false
section
/- Contracts: can a book be true; what is told of all truths. -/
set_option linter.unusedSimpArgs false
set_option linter.unusedVariables false
namespace Av
open Go (IntKind BinOp UnOp)

def Bk.can (b : Bk) (bs : Nat → Bool) : Bool := !(b.all bs).isEmpty
theorem run_stop {σ : Type} (t s : σ) (ls : List (List Int)) : run (fun _ _ => (t, false)) s ls = if ls.isEmpty then (s, true) else (t, false) := by
  cases ls <;> simp [run]
theorem c57 (b : Bk) (hok : b.ok = true) (L : List Int) (hL : (L.length : Int) ≤ 9223372036854775807) : icall pr (.fn 57 [] []) [opV b L] = some (.bool (b.can (inL L))) := by
  have hcg := chg_ok b
  refine icall_fn fn57 rfl (by simp) (by simp [hcg.1, hcg.2.1]) rfl ?_
  simp [g57_stone_book_isTrue, g57_stone_book_isTrue_c, c82 b L _ _ hcg]
  refine wpr_seq (wpr_oblock (wpr_mono (range_truths b hok L hL _ _ hcg (fun j => j = 0) (fun (s : Bool) h => h.get 0 = some (.cells [.bool s])) (fun _ _ => (true, false)) _ _ _ _ _ _ false rfl ?_ ?_ ?_ ?_) ?_))
  · rintro j rfl; simp
  · intro s h h' h1 _ h2; rw [h1 _ rfl]; exact h2
  · intro l hl
    refine ⟨_, fun h' => by rw [den_skip], fun s h' hn hg => ?_⟩
    simp [g57_stone_book_isTrue_b0, hg, onB]
    exact fun j hj h1 => absurd h1 hj
  · simp
  · rintro o e h ⟨rfl, hu, hn, hfr, ho⟩
    rw [run_stop] at hu ho
    cases hA : (b.all (inL L)).isEmpty with
    | true =>
      simp [hA] at hu ho
      subst ho
      simp [onB, onN, hu, results, rdRess, rdRes, Bk.can, hA]
    | false =>
      simp [hA] at hu ho
      subst ho
      simp [onB, onN, hu, results, rdRess, rdRes, Bk.can, hA]
end Av
end

section
/- Contracts: what is asked; what is told of all truths. -/
set_option linter.unusedSimpArgs false
set_option linter.unusedVariables false
namespace Av
open Go (IntKind BinOp UnOp)

abbrev noBook : AV := .agg [.sl [] .shut, .sl [] .shut, .int .i64 0, .int .i64 0, .int .i64 0, .int .i64 0, .nilf, .nilm]
def askE (b : Bk) (is : Bool) : Int := if b.ok then (if is then (if b.can (inL []) then 0 else 32) else 31) else 30
def askB (b : Bk) (is : Bool) : AV := if b.ok then (if is then opV b [] else noBook) else noBook
theorem c66 (b : Bk) (hb : b.fit) (is : Bool) : icall pr (.fn 66 [] []) [b.v, .bool is] = some (.tup [askB b is, .int .i64 (askE b is)]) := by
  have hcg := chg_ok b
  have c1 := c56 []
  have c2 := c55 b hb []
  have hcl : (askB b is).clean = true := by
    unfold askB
    split
    · split
      · simp [hcg.1, hcg.2.1]
      · rfl
    · rfl
  refine icall_fn fn66 rfl (by simp) (by simp) (by simp [hcl]) ?_
  cases hok : b.ok with
  | false => simp [g66_stone_asked, g66_stone_asked_c, c17 b hb, hok, results, rdRess, rdRes, askB, askE]
  | true =>
    cases is with
    | false => simp [g66_stone_asked, g66_stone_asked_c, c17 b hb, hok, results, rdRess, rdRes, askB, askE]
    | true =>
      have c3 := c57 b hok [] (by simp)
      simp at c1 c2
      cases hcan : b.can (inL []) with
      | false =>
        rw [hcan] at c3
        simp [g66_stone_asked, g66_stone_asked_c, c17 b hb, hok, results, rdRess, rdRes, askB, askE, c1, c2, c3, hcan]
      | true =>
        rw [hcan] at c3
        simp [g66_stone_asked, g66_stone_asked_c, c17 b hb, hok, results, rdRess, rdRes, askB, askE, c1, c2, c3, hcan]
theorem c15 (b : Bk) (hb : b.fit) : icall pr (.fn 15 [] []) [b.v] = some (.tup [.bool (b.ok && b.can (inL [])), .int .i64 (if b.ok then 0 else 30)]) := by
  have c1 := c56 []
  have c2 := c55 b hb []
  refine icall_fn fn15 rfl (by simp) (by simp) rfl ?_
  cases hok : b.ok with
  | false => simp [g15_stone_Right, g15_stone_Right_c, c17 b hb, hok, results, rdRess, rdRes]
  | true =>
    have c3 := c57 b hok [] (by simp)
    simp at c1 c2
    simp [g15_stone_Right, g15_stone_Right_c, c17 b hb, hok, results, rdRess, rdRes, c1, c2, c3]

/-- the least and the most of some spans -/
def tellSt (f : List Int → Int × Int) (s : Bool × Int × Int) (l : List Int) : (Bool × Int × Int) × Bool :=
  ((true, if s.1 then (min s.2.1 (f l).1, max s.2.2 (f l).2) else f l), true)
def tell (f : List Int → Int × Int) (ls : List (List Int)) : Int × Int := (run (tellSt f) (false, 0, 0) ls).1.2
theorem tell_go (f : List Int → Int × Int) (s : Bool × Int × Int) (ls : List (List Int)) : (run (tellSt f) s ls).2 = true := by
  induction ls generalizing s with
  | nil => rfl
  | cons l ls ih => simp only [run, tellSt, if_true]; exact ih _

theorem c68 (b : Bk) (hok : b.ok = true) (L : List Int) (hL : (L.length : Int) ≤ 9223372036854775807) (kf : Nat) (cap : List AV) (hcap : cleans cap = true) (f : List Int → Int × Int)
    (hf : ∀ l, lok l → icall pr (.fn kf [] cap) [.agg (iv (tcell b l b.hs.length))] = some (.agg [.int .i64 (f l).1, .int .i64 (f l).2])) :
    icall pr (.fn 68 [] []) [opV b L, .fn kf [] cap] = some (.agg [.int .i64 (tell f (b.all (inL L))).1, .int .i64 (tell f (b.all (inL L))).2]) := by
  have hcg := chg_ok b
  have hlen := ok_len hok
  refine icall_fn fn68 rfl (by simp) (by simp [hcg.1, hcg.2.1, hcap]) rfl ?_
  simp [g68_stone_book_told, g68_stone_book_told_c, c82 b L _ _ hcg]
  refine wpr_seq (wpr_oblock (wpr_mono (range_truths b hok L hL _ _ hcg (fun j => j = 0 ∨ j = 1) (fun (s : Bool × Int × Int) h => 2 ≤ h.n ∧ h.get 0 = some (.cells [.int .i64 s.2.1, .int .i64 s.2.2]) ∧ h.get 1 = some (.cells [.bool s.1])) (tellSt f) _ _ _ _ _ _ (false, 0, 0) rfl ?_ ?_ ?_ ?_) ?_))
  · rintro j (rfl | rfl) <;> simp
  · rintro s h h' h1 h3 ⟨h0, h2, h4⟩; exact ⟨by omega, by rw [h1 _ (.inl rfl)]; exact h2, by rw [h1 _ (.inr rfl)]; exact h4⟩
  · intro l hl
    have htl := tcell_len (b := b) hl (show b.hs.length ≤ 4 by omega)
    have hpt := part_ivall htl
    have hc := hf l hl
    refine ⟨_, fun h' => by simp [htl, splice]; rfl, fun s h' hn hg => ?_⟩
    obtain ⟨h0, h2, h4⟩ := hg
    obtain ⟨any, lo, hi⟩ := s
    have h01 : 0 < h'.n := by omega
    have h11 : 1 < h'.n := by omega
    cases any with
    | false =>
      simp [g68_stone_book_told_b0, h2, h4, onB, hpt, hc, h01, h11, tellSt, h0]
      intro j h1 h2; simp [h1, h2]
    | true =>
      simp [g68_stone_book_told_b0, h2, h4, onB, hpt, hc, h01, h11, tellSt, h0]
      exact fun j h1 _ h2 => absurd h2 h1
  · simp
  · rintro o e h ⟨rfl, hu, hn, hfr, ho⟩
    rw [tell_go] at ho
    obtain ⟨h0, h2, h4⟩ := hu
    simp at ho
    subst ho
    have h01 : 0 < h.n := by omega
    simp [onB, onN, h2, h4, results, rdRess, rdRes, h01, tell]
end Av
end

section
/- Contracts: what a load had, what is in a heap, what was laid, what is owed. -/
set_option linter.unusedSimpArgs false
set_option linter.unusedVariables false
namespace Av
open Go (IntKind BinOp UnOp)

theorem askE_zero {b : Bk} {is : Bool} : askE b is = 0 ↔ b.ok = true ∧ is = true ∧ b.can (inL []) = true := by
  unfold askE
  cases b.ok <;> cases is <;> cases b.can (inL []) <;> simp
theorem tcell_l {b : Bk} {l : List Int} (hl : lok l) (n : Nat) {k : Nat} (hk : k < 5) : (tcell b l n).getD k 0 = l.getD k 0 := by
  have h1 : k < l.length := by rw [hl.1]; exact hk
  simp only [tcell, List.append_assoc, List.getD_eq_getElem?_getD]
  rw [List.getElem?_append_left h1]
theorem firsts_get {b : Bk} {l : List Int} (n : Nat) (k : Nat) (x : Hp) (hx : b.hs[k]? = some x) (hn : k < n) : (firsts b l n)[2 * k]? = some (b.firstLo l k x) ∧ (firsts b l n)[2 * k + 1]? = some (b.firstHi l k x) := by
  induction n with
  | zero => omega
  | succ n ih =>
    have hlen := firsts_len b l n
    have hs : ∃ y z, firsts b l (n + 1) = firsts b l n ++ [y, z] ∧ (n = k → y = b.firstLo l k x ∧ z = b.firstHi l k x) := by
      simp only [firsts, List.range_succ, List.flatMap_append, List.flatMap_cons, List.flatMap_nil, List.append_nil]
      by_cases hnk : n = k
      · subst hnk; rw [hx]; exact ⟨_, _, rfl, fun _ => ⟨rfl, rfl⟩⟩
      · cases b.hs[n]? with
        | none => exact ⟨_, _, rfl, fun h => absurd h hnk⟩
        | some y => exact ⟨_, _, rfl, fun h => absurd h hnk⟩
    obtain ⟨y, z, h1, h2⟩ := hs
    rw [h1]
    by_cases hk : k < n
    · rw [List.getElem?_append_left (by omega), List.getElem?_append_left (by omega)]; exact ih hk
    · have : n = k := by omega
      subst this
      obtain ⟨rfl, rfl⟩ := h2 rfl
      rw [List.getElem?_append_right (by omega), List.getElem?_append_right (by omega)]
      simp [hlen]
theorem tcell_f {b : Bk} {l : List Int} (hl : lok l) {n k : Nat} {x : Hp} (hx : b.hs[k]? = some x) (hn : k < n) :
    (tcell b l n).getD (5 + k * 2) 0 = b.firstLo l k x ∧ (tcell b l n).getD (5 + k * 2 + 1) 0 = b.firstHi l k x := by
  obtain ⟨h1, h2⟩ := firsts_get (l := l) n k x hx hn
  have hlen := firsts_len b l n
  simp only [tcell, List.append_assoc, List.getD_eq_getElem?_getD]
  constructor
  · rw [List.getElem?_append_right (by rw [hl.1]; omega), hl.1, show 5 + k * 2 - 5 = 2 * k by omega, List.getElem?_append_left (by omega), h1]; rfl
  · rw [List.getElem?_append_right (by rw [hl.1]; omega), hl.1, show 5 + k * 2 + 1 - 5 = 2 * k + 1 by omega, List.getElem?_append_left (by omega), h2]; rfl

theorem c69 (b : Bk) (hok : b.ok = true) (k : Nat) (hk : k < b.ms.length) (l : List Int) (hl : lok l) :
    icall pr (.fn 69 [] [.cptr [.int .i64 k]]) [.agg (iv (tcell b l b.hs.length))] = some (.agg [.int .i64 (l.getD k 0), .int .i64 (l.getD k 0)]) := by
  have hlen := ok_len hok
  have htl := tcell_len (b := b) hl (show b.hs.length ≤ 4 by omega)
  have hp := part_iv1 (l := tcell b l b.hs.length) (k := k) (by omega)
  rw [tcell_l hl _ (by omega)] at hp
  have hk5 : (k : Int) < 5 := by omega
  refine icall_fn fn69 rfl (by simp) (by simp) rfl ?_
  simp [g69_stone_Yards_1, g69_stone_Yards_1_c, hp, hk5, results, rdRess, rdRes]

theorem c74 (b : Bk) (hok : b.ok = true) (L : List Int) (h : Nat) (x : Hp) (hx : b.hs[h]? = some x) (k : Nat) (hk : k ≤ b.ms.length) (l : List Int) (hl : lok l) :
    icall pr (.fn 74 [] [.cptr (opC b L), .cptr [.int .i64 h], .cptr [.int .i64 k]]) [.agg (iv (tcell b l b.hs.length))] =
      some (.agg [.int .i64 (b.firstLo l h x + more b.ms l h k), .int .i64 (b.firstHi l h x + more b.ms l h k)]) := by
  have hlen := ok_len hok
  have hcg := chg_ok b
  have hh : h < b.hs.length := (List.getElem?_eq_some_iff.1 hx).1
  have hxo := ok_hp hok hx
  have htl := tcell_len (b := b) hl (show b.hs.length ≤ 4 by omega)
  have hp1 := part_iv1 (l := tcell b l b.hs.length) (k := 5 + h * 2) (by omega)
  have hp2 := part_iv1 (l := tcell b l b.hs.length) (k := 5 + h * 2 + 1) (by omega)
  obtain ⟨hf1, hf2⟩ := tcell_f (b := b) hl hx hh
  rw [hf1] at hp1
  rw [hf2] at hp2
  have hpa : part (iv (tcell b l b.hs.length)) 0 5 true = some (.agg (iv l)) := by
    rw [part, if_pos (by rw [iv_len]; omega), if_pos rfl, List.drop_zero, iv, ← List.map_take]
    congr 3
    rw [tcell, List.append_assoc, List.take_left' hl.1]
  have c1 := c75 b (by omega) L _ _ hcg l hl h (by omega) k hk
  have h4 : (h : Int) < 4 := by omega
  have hb1 := more_bd b.ms hl h k
  have hb2 := more_bd b.ms hl h b.ms.length
  have hb3 := lowTo_bd b.ms hl h (max x.a (x.c - more b.ms l h b.ms.length)) (b.ms.length + 1)
  have hw1 : IntKind.wrap .i64 (b.firstLo l h x + more b.ms l h k) = b.firstLo l h x + more b.ms l h k := by
    unfold Bk.firstLo; push_cast at hb3; exact wrap_id (by omega) (by omega)
  have hw2 : IntKind.wrap .i64 (b.firstHi l h x + more b.ms l h k) = b.firstHi l h x + more b.ms l h k := by
    unfold Bk.firstHi; exact wrap_id (by omega) (by omega)
  refine icall_fn fn74 rfl (by simp [hcg.1, hcg.2.1]) (by simp) rfl ?_
  simp [g74_stone_Heap_1, g74_stone_Heap_1_c, hp1, hp2, hpa, h4, c1, hw1, hw2, results, rdRess, rdRes]

/-- what all loads of a kind had together -/
def allTo (ms : List Mv) (is : Mv → Bool) (l : List Int) : Nat → Int
  | 0 => 0
  | k + 1 => allTo ms is l k + (match ms[k]? with | some m => if is m then l.getD k 0 else 0 | none => 0)
theorem allTo_bd (ms : List Mv) (is) {l : List Int} (h : lok l) (k : Nat) : 0 ≤ allTo ms is l k ∧ allTo ms is l k ≤ 6 * (k : Int) := by
  induction k with
  | zero => simp [allTo]
  | succ k ih =>
    have := lok_get h k
    simp only [allTo]
    cases ms[k]? with
    | none => constructor <;> simp <;> omega
    | some m => dsimp only; split <;> constructor <;> push_cast <;> omega
theorem c96 (b : Bk) (hok : b.ok = true) (L : List Int) (kf : Nat) (cap : List AV) (hcap : cleans cap = true) (is : Mv → Bool) (his : ∀ m, icall pr (.fn kf [] cap) [m.v] = some (.bool (is m))) (l : List Int) (hl : lok l) :
    icall pr (.fn 96 [] [.cptr (opC b L), .cptr [.fn kf [] cap]]) [.agg (iv (tcell b l b.hs.length))] = some (.agg [.int .i64 (allTo b.ms is l b.ms.length), .int .i64 (allTo b.ms is l b.ms.length)]) := by
  have hlen := ok_len hok
  have hcg := chg_ok b
  have htl := tcell_len (b := b) hl (show b.hs.length ≤ 4 by omega)
  refine icall_fn fn96 rfl (by simp [hcg.1, hcg.2.1, hcap]) (by simp) rfl ?_
  simp [g96_stone_book_all_1, g96_stone_book_all_1_c]
  refine wpr_seq (wpr_oblock (loop_up pr (fun k e h => e 2 = .cptr [.fn kf [] cap] ∧ e 3 = .lbox 0 (iv (tcell b l b.hs.length)) ∧ e 4 = .lbox 0 [.int .i64 0, .int .i64 0] ∧ e 10 = .sl (mvs b.ms) .shut ∧ e 11 = .int .i64 b.ms.length ∧ e 12 = .int .i64 k ∧ e 5 = .int .i64 (allTo b.ms is l k)) b.ms.length ?_ ?_ 0 _ _ (by omega) ⟨rfl, rfl, rfl, rfl, rfl, rfl, rfl⟩))
  · rintro k e h hk ⟨e2, e3, e4, e10, e11, e12, e5⟩
    have hw : IntKind.wrap .i64 ((k : Int) + 1) = k + 1 := wrap_id (by omega) (by omega)
    have hp := part_iv1 (l := tcell b l b.hs.length) (k := k) (by omega)
    rw [tcell_l hl _ (by omega)] at hp
    have hk5 : (k : Int) < 5 := by omega
    have hm : b.ms[k]? = some b.ms[k] := List.getElem?_eq_getElem hk
    have hbd := allTo_bd b.ms is hl k
    have hlk := lok_get hl k
    have hw2 : IntKind.wrap .i64 (allTo b.ms is l k + l.getD k 0) = allTo b.ms is l k + l.getD k 0 := wrap_id (by omega) (by omega)
    have hs : allTo b.ms is l (k + 1) = allTo b.ms is l k + (if is b.ms[k] then l.getD k 0 else 0) := by simp only [allTo, hm]
    have c1 := his b.ms[k]
    generalize hmm : b.ms[k] = m at *
    generalize l.getD k 0 = n at *
    cases hi : is m with
    | true => simp [g96_stone_book_all_1_l0, e2, e3, e4, e10, e11, e12, e5, hk, hmm, hw, hp, hk5, c1, hi, hw2, hs]
    | false => simp [g96_stone_book_all_1_l0, e2, e3, e4, e10, e11, e12, e5, hk, hmm, hw, hp, hk5, c1, hi, hw2, hs]
  · rintro e h ⟨e2, e3, e4, e10, e11, e12, e5⟩
    simp [g96_stone_book_all_1_l0, e10, e11, e12, e5, e4, onB, onN, results, rdRess, rdRes]
theorem c80 (m : Mv) : icall pr (.fn 80 [] []) [m.v] = some (.bool (decide (m.t = -1))) := by
  refine icall_fn fn80 rfl rfl rfl rfl ?_
  simp [g80_stone_Laid_1, g80_stone_Laid_1_c, results, rdRess, rdRes]
theorem c81 (c : Int) (m : Mv) : icall pr (.fn 81 [] [.cptr [.int .i64 c]]) [m.v] = some (.bool (decide (m.c = c))) := by
  refine icall_fn fn81 rfl rfl rfl rfl ?_
  simp [g81_stone_Owed_1, g81_stone_Owed_1_c, results, rdRess, rdRes]
theorem c79 (b : Bk) (hok : b.ok = true) (L : List Int) (hL : (L.length : Int) ≤ 9223372036854775807) (kf : Nat) (cap : List AV) (hcap : cleans cap = true) (is : Mv → Bool) (his : ∀ m, icall pr (.fn kf [] cap) [m.v] = some (.bool (is m))) :
    icall pr (.fn 79 [] []) [opV b L, .fn kf [] cap] = some (.agg [.int .i64 (tell (fun l => (allTo b.ms is l b.ms.length, allTo b.ms is l b.ms.length)) (b.all (inL L))).1, .int .i64 (tell (fun l => (allTo b.ms is l b.ms.length, allTo b.ms is l b.ms.length)) (b.all (inL L))).2]) := by
  have hcg := chg_ok b
  have c1 := c68 b hok L hL 96 [.cptr (opC b L), .cptr [.fn kf [] cap]] (by simp [hcg.1, hcg.2.1, hcap]) (fun l => (allTo b.ms is l b.ms.length, allTo b.ms is l b.ms.length)) (fun l hl => c96 b hok L kf cap hcap is his l hl)
  refine icall_fn fn79 rfl (by simp) (by simp [hcg.1, hcg.2.1, hcap]) rfl ?_
  simp [g79_stone_book_all, g79_stone_book_all_c, c1, results, rdRess, rdRes]
end Av
end

section
/- Contracts: Yards, Heap, Laid, Owed, Fits. -/
set_option linter.unusedSimpArgs false
set_option linter.unusedVariables false
namespace Av
open Go (IntKind BinOp UnOp)

abbrev Bk.T (b : Bk) : List (List Int) := b.all (inL [])
def ans (E : Int) (s : Int × Int) : (Int × Int) × Int := if E = 0 then (s, 0) else ((0, 0), E)
abbrev spanV (r : (Int × Int) × Int) : AV := .tup [.agg [.int .i64 r.1.1, .int .i64 r.1.2], .int .i64 r.2]
def yardF (k : Nat) (l : List Int) : Int × Int := (l.getD k 0, l.getD k 0)
def heapF (b : Bk) (h k : Nat) (l : List Int) : Int × Int := match b.hs[h]? with
  | some x => (b.firstLo l h x + more b.ms l h k, b.firstHi l h x + more b.ms l h k)
  | none => (0, 0)
def allF (b : Bk) (is : Mv → Bool) (l : List Int) : Int × Int := (allTo b.ms is l b.ms.length, allTo b.ms is l b.ms.length)
def isMv (b : Bk) (k : Int) : Bool := decide (0 ≤ k ∧ k < b.ms.length)
def isHp (b : Bk) (k : Int) : Bool := decide (0 ≤ k ∧ k < b.hs.length)
def Bk.yards (b : Bk) (k : Int) : (Int × Int) × Int := ans (askE b (isMv b k)) (tell (yardF k.toNat) b.T)
def Bk.heap (b : Bk) (h k : Int) : (Int × Int) × Int := ans (askE b (isHp b h && decide (0 ≤ k ∧ k ≤ b.ms.length))) (tell (heapF b h.toNat k.toNat) b.T)
def Bk.laid (b : Bk) : (Int × Int) × Int := ans (askE b true) (tell (allF b fun m => decide (m.t = -1)) b.T)
def Bk.owed (b : Bk) (c r : Int) : (Int × Int) × Int := ans (askE b (decide (0 ≤ c ∧ c ≤ 3) && decide (0 ≤ r ∧ r ≤ 99))) ((tell (allF b fun m => decide (m.c = c)) b.T).1 * r, (tell (allF b fun m => decide (m.c = c)) b.T).2 * r)
def Bk.fitsQ (b : Bk) (k n : Int) : Bool × Int := if askE b (isMv b k && decide (0 ≤ n ∧ n ≤ 6)) = 0 then (b.T.any (fun l => decide (l.getD k.toNat 0 = n)), 0) else (false, askE b (isMv b k && decide (0 ≤ n ∧ n ≤ 6)))

theorem tell_run (f : List Int → Int × Int) (ls : List (List Int)) : ∀ s : Bool × Int × Int, s.1 = true →
    (run (tellSt f) s ls).1.2.1 ≤ s.2.1 ∧ s.2.2 ≤ (run (tellSt f) s ls).1.2.2 ∧ (∀ l ∈ ls, (run (tellSt f) s ls).1.2.1 ≤ (f l).1 ∧ (f l).2 ≤ (run (tellSt f) s ls).1.2.2) ∧
    ((run (tellSt f) s ls).1.2.1 = s.2.1 ∨ ∃ l ∈ ls, (run (tellSt f) s ls).1.2.1 = (f l).1) ∧ ((run (tellSt f) s ls).1.2.2 = s.2.2 ∨ ∃ l ∈ ls, (run (tellSt f) s ls).1.2.2 = (f l).2) := by
  induction ls with
  | nil => intro s hs; simp [run]
  | cons x ls ih =>
    intro s hs
    have h := ih (tellSt f s x).1 rfl
    have hr : run (tellSt f) s (x :: ls) = run (tellSt f) (tellSt f s x).1 ls := by simp [run, tellSt]
    rw [hr]
    simp only [tellSt, hs, if_true] at h ⊢
    obtain ⟨h1, h2, h3, h4, h5⟩ := h
    refine ⟨by clear h3 h4 h5; omega, by clear h3 h4 h5; omega, ?_, ?_, ?_⟩
    · intro l hl
      rcases List.mem_cons.1 hl with rfl | hl
      · clear h3 h4 h5; constructor <;> omega
      · exact h3 l hl
    · rcases h4 with h4 | ⟨l, hl, h4⟩
      · rw [h4]
        rcases Int.le_total s.2.1 (f x).1 with hq | hq
        · exact .inl (by clear h3 h4 h5; omega)
        · exact .inr ⟨x, by simp, by clear h3 h4 h5; omega⟩
      · exact .inr ⟨l, by simp [hl], h4⟩
    · rcases h5 with h5 | ⟨l, hl, h5⟩
      · rw [h5]
        rcases Int.le_total s.2.2 (f x).2 with hq | hq
        · exact .inr ⟨x, by simp, by clear h3 h4 h5; omega⟩
        · exact .inl (by clear h3 h4 h5; omega)
      · exact .inr ⟨l, by simp [hl], h5⟩
theorem tell_spec (f : List Int → Int × Int) (ls : List (List Int)) (hne : ls.isEmpty = false) :
    (∀ l ∈ ls, (tell f ls).1 ≤ (f l).1 ∧ (f l).2 ≤ (tell f ls).2) ∧ (∃ l ∈ ls, (tell f ls).1 = (f l).1) ∧ (∃ l ∈ ls, (tell f ls).2 = (f l).2) := by
  cases ls with
  | nil => simp at hne
  | cons x ls =>
    have h := tell_run f ls (true, f x) rfl
    have hr : tell f (x :: ls) = (run (tellSt f) (true, f x) ls).1.2 := by simp [tell, run, tellSt]
    rw [hr]
    obtain ⟨h1, h2, h3, h4, h5⟩ := h
    refine ⟨?_, ?_, ?_⟩
    · intro l hl
      rcases List.mem_cons.1 hl with rfl | hl
      · exact ⟨h1, h2⟩
      · exact h3 l hl
    · rcases h4 with h4 | ⟨l, hl, h4⟩
      · exact ⟨x, by simp, h4⟩
      · exact ⟨l, by simp [hl], h4⟩
    · rcases h5 with h5 | ⟨l, hl, h5⟩
      · exact ⟨x, by simp, h5⟩
      · exact ⟨l, by simp [hl], h5⟩
theorem carts_lok (b : Bk) (bs : Nat → Bool) : ∀ r l0, lok l0 → ∀ l ∈ b.carts bs l0 r, lok l := by
  intro r
  induction r with
  | zero =>
    intro l0 h0 l hl
    simp only [Bk.carts] at hl
    split at hl
    · rw [List.mem_singleton.1 hl]; exact h0
    · cases hl
  | succ r ih =>
    intro l0 h0 l hl
    simp only [Bk.carts, List.mem_flatMap, List.mem_range] at hl
    obtain ⟨n, hn, hl⟩ := hl
    split at hl
    · exact ih _ (lok_set h0 _ n hn) l hl
    · cases hl
theorem all_lok (b : Bk) (bs) : ∀ l ∈ b.all bs, lok l := carts_lok b bs _ _ lok_zeros

theorem askB_or (b : Bk) (is : Bool) : askB b is = opV b [] ∨ askB b is = noBook := by
  unfold askB; split
  · split
    · exact .inl rfl
    · exact .inr rfl
  · exact .inr rfl
theorem askB_op {b : Bk} {is : Bool} (h : askE b is = 0) : askB b is = opV b [] := by
  obtain ⟨h1, h2, h3⟩ := askE_zero.1 h
  simp [askB, h1, h2]
theorem c19 (b : Bk) (hb : b.fit) (k : Int) : icall pr (.fn 19 [] []) [b.v, .int .i64 k] = some (spanV (b.yards k)) := by
  have hcg := chg_ok b
  have c1 := c67 b hb k
  have c2 := c66 b hb (isMv b k)
  refine icall_fn fn19 rfl (by simp) (by simp) rfl ?_
  have hE : b.yards k = ans (askE b (isMv b k)) (tell (yardF k.toNat) b.T) := rfl
  have hdec : decide (0 ≤ k ∧ k < b.ms.length) = isMv b k := rfl
  rw [hdec] at c1
  by_cases hz : askE b (isMv b k) = 0
  · obtain ⟨h1, h2, h3⟩ := askE_zero.1 hz
    have hB : askB b (isMv b k) = opV b [] := by simp [askB, h1, h2]
    rw [hz, hB] at c2
    simp only [isMv, decide_eq_true_eq] at h2
    obtain ⟨n, rfl⟩ := Int.eq_ofNat_of_zero_le h2.1
    have c3 := c68 b h1 [] (by simp) 69 [.cptr [.int .i64 n]] rfl (yardF n) (fun l hl => c69 b h1 n (by omega) l hl)
    rw [hE, hz]
    simp [g19_stone_Yards, g19_stone_Yards_c, c1, c2, c3, results, rdRess, rdRes, ans]
  · rw [hE]
    rcases askB_or b (isMv b k) with hB | hB <;> rw [hB] at c2 <;>
      simp [g19_stone_Yards, g19_stone_Yards_c, c1, c2, results, rdRess, rdRes, hz, ans]

theorem c21 (b : Bk) (hb : b.fit) (h k : Int) : icall pr (.fn 21 [] []) [b.v, .int .i64 h, .int .i64 k] = some (spanV (b.heap h k)) := by
  have hcg := chg_ok b
  have c1 := c73 b hb h
  have hdec : decide (0 ≤ h ∧ h < b.hs.length) = isHp b h := rfl
  rw [hdec] at c1
  have c2 := c66 b hb (isHp b h && decide (0 ≤ k ∧ k ≤ b.ms.length))
  refine icall_fn fn21 rfl (by simp) (by simp) rfl ?_
  have hE : b.heap h k = ans (askE b (isHp b h && decide (0 ≤ k ∧ k ≤ b.ms.length))) (tell (heapF b h.toNat k.toNat) b.T) := rfl
  rw [hE]
  generalize hP : decide (0 ≤ k ∧ k ≤ b.ms.length) = P at *
  have c4 := c59 k 0 b.ms.length
  rw [hP] at c4
  by_cases hz : askE b (isHp b h && P) = 0
  · rw [hz, askB_op hz] at c2
    obtain ⟨h1, h2, h3⟩ := askE_zero.1 hz
    simp only [Bool.and_eq_true] at h2
    obtain ⟨h4, h5⟩ := h2
    rw [h4, h5, Bool.and_self] at c2
    rw [h4] at c1
    rw [h5] at c4
    rw [← hP] at h5
    simp only [isHp, decide_eq_true_eq] at h4 h5
    obtain ⟨n, rfl⟩ := Int.eq_ofNat_of_zero_le h4.1
    obtain ⟨q, rfl⟩ := Int.eq_ofNat_of_zero_le h5.1
    have hx : b.hs[n]? = some b.hs[n] := List.getElem?_eq_getElem (by omega)
    have c3 := c68 b h1 [] (by simp) 74 [.cptr (opC b []), .cptr [.int .i64 n], .cptr [.int .i64 q]] (by simp [hcg.1, hcg.2.1]) (heapF b n q) (fun l hl => by
      rw [c74 b h1 [] n _ hx q (by omega) l hl]; simp only [heapF, hx])
    rw [hz]
    simp [g21_stone_Heap, g21_stone_Heap_c, c1, c2, c3, c4, results, rdRess, rdRes, ans]
  · cases hh : isHp b h with
    | true =>
      rw [hh] at c1 c2 hz
      rcases askB_or b (true && P) with hB | hB <;> rw [hB] at c2 <;> simp only [Bool.true_and] at c2 hz <;>
        simp [g21_stone_Heap, g21_stone_Heap_c, c1, c2, c4, results, rdRess, rdRes, hz, ans]
    | false =>
      rw [hh] at c1 c2 hz
      rcases askB_or b (false && P) with hB | hB <;> rw [hB] at c2 <;> simp only [Bool.false_and] at c2 hz <;>
        simp [g21_stone_Heap, g21_stone_Heap_c, c1, c2, c4, results, rdRess, rdRes, hz, ans]
theorem c24 (b : Bk) (hb : b.fit) : icall pr (.fn 24 [] []) [b.v] = some (spanV b.laid) := by
  have hcg := chg_ok b
  have c2 := c66 b hb true
  refine icall_fn fn24 rfl (by simp) (by simp) rfl ?_
  have hE : b.laid = ans (askE b true) (tell (allF b fun m => decide (m.t = -1)) b.T) := rfl
  rw [hE]
  by_cases hz : askE b true = 0
  · rw [hz, askB_op hz] at c2
    obtain ⟨h1, h2, h3⟩ := askE_zero.1 hz
    have c3 := c79 b h1 [] (by simp) 80 [] rfl _ c80
    rw [hz]
    simp [g24_stone_Laid, g24_stone_Laid_c, c2, c3, results, rdRess, rdRes, ans]
    constructor <;> rfl
  · rcases askB_or b true with hB | hB <;> rw [hB] at c2 <;>
      simp [g24_stone_Laid, g24_stone_Laid_c, c2, results, rdRess, rdRes, hz, ans]

theorem mul_bd {a r : Int} (h1 : 0 ≤ a) (h2 : a ≤ 30) (h3 : 0 ≤ r) (h4 : r ≤ 99) : 0 ≤ a * r ∧ a * r ≤ 2970 := by
  refine ⟨Int.mul_nonneg h1 h3, ?_⟩
  have := Int.mul_le_mul h2 h4 h3 (by omega)
  omega
theorem can_ne {b : Bk} {bs} (h : b.can bs = true) : (b.all bs).isEmpty = false := by
  simpa [Bk.can] using h
theorem tell_allF {b : Bk} (hok : b.ok = true) {bs : Nat → Bool} (hc : b.can bs = true) (is : Mv → Bool) :
    0 ≤ (tell (allF b is) (b.all bs)).1 ∧ (tell (allF b is) (b.all bs)).1 ≤ 30 ∧ 0 ≤ (tell (allF b is) (b.all bs)).2 ∧ (tell (allF b is) (b.all bs)).2 ≤ 30 := by
  have hlen := ok_len hok
  obtain ⟨_, ⟨l, hl, h1⟩, ⟨l', hl', h2⟩⟩ := tell_spec (allF b is) (b.all bs) (can_ne hc)
  have b1 := allTo_bd b.ms is (all_lok b bs l hl) b.ms.length
  have b2 := allTo_bd b.ms is (all_lok b bs l' hl') b.ms.length
  rw [h1, h2]
  simp only [allF]
  omega
theorem c26 (b : Bk) (hb : b.fit) (c r : Int) : icall pr (.fn 26 [] []) [b.v, .int .i64 c, .int .i64 r] = some (spanV (b.owed c r)) := by
  have hcg := chg_ok b
  have c1 := c62 c
  have c4 := c59 r 0 99
  have c2 := c66 b hb (decide (0 ≤ c ∧ c ≤ 3) && decide (0 ≤ r ∧ r ≤ 99))
  refine icall_fn fn26 rfl (by simp) (by simp) rfl ?_
  have hE : b.owed c r = ans (askE b (decide (0 ≤ c ∧ c ≤ 3) && decide (0 ≤ r ∧ r ≤ 99))) ((tell (allF b fun m => decide (m.c = c)) b.T).1 * r, (tell (allF b fun m => decide (m.c = c)) b.T).2 * r) := rfl
  rw [hE]
  generalize hP : decide (0 ≤ c ∧ c ≤ 3) = P at *
  generalize hQ : decide (0 ≤ r ∧ r ≤ 99) = Q at *
  by_cases hz : askE b (P && Q) = 0
  · rw [hz, askB_op hz] at c2
    obtain ⟨h1, h2, h3⟩ := askE_zero.1 hz
    simp only [Bool.and_eq_true] at h2
    obtain ⟨h4, h5⟩ := h2
    rw [h4, h5, Bool.and_self] at c2
    rw [h4] at c1
    rw [h5] at c4
    rw [← hQ, decide_eq_true_eq] at h5
    have c3 := c79 b h1 [] (by simp) 81 [.cptr [.int .i64 c]] rfl _ (c81 c)
    have hbd : 0 ≤ (tell (allF b fun m => decide (m.c = c)) b.T).1 ∧ (tell (allF b fun m => decide (m.c = c)) b.T).1 ≤ 30 ∧ 0 ≤ (tell (allF b fun m => decide (m.c = c)) b.T).2 ∧ (tell (allF b fun m => decide (m.c = c)) b.T).2 ≤ 30 := tell_allF h1 h3 _
    have hw1 : IntKind.wrap .i64 ((tell (allF b fun m => decide (m.c = c)) b.T).1 * r) = (tell (allF b fun m => decide (m.c = c)) b.T).1 * r := by
      have := mul_bd hbd.1 hbd.2.1 h5.1 h5.2; exact wrap_id (by omega) (by omega)
    have hw2 : IntKind.wrap .i64 ((tell (allF b fun m => decide (m.c = c)) b.T).2 * r) = (tell (allF b fun m => decide (m.c = c)) b.T).2 * r := by
      have := mul_bd hbd.2.2.1 hbd.2.2.2 h5.1 h5.2; exact wrap_id (by omega) (by omega)
    have hall : (fun l => (allTo b.ms (fun m => decide (m.c = c)) l b.ms.length, allTo b.ms (fun m => decide (m.c = c)) l b.ms.length)) = allF b fun m => decide (m.c = c) := rfl
    rw [hall] at c3
    rw [hz]
    simp [g26_stone_Owed, g26_stone_Owed_c, c1, c2, c3, c4, results, rdRess, rdRes, ans, hw1, hw2]
  · cases P with
    | true =>
      rcases askB_or b (true && Q) with hB | hB <;> rw [hB] at c2 <;> simp only [Bool.true_and] at c2 hz <;>
        simp [g26_stone_Owed, g26_stone_Owed_c, c1, c2, c4, results, rdRess, rdRes, hz, ans]
    | false =>
      rcases askB_or b (false && Q) with hB | hB <;> rw [hB] at c2 <;> simp only [Bool.false_and] at c2 hz <;>
        simp [g26_stone_Owed, g26_stone_Owed_c, c1, c2, c4, results, rdRess, rdRes, hz, ans]

theorem run_find (P : List Int → Bool) (ls : List (List Int)) : run (fun (s : Bool) l => if P l then (true, false) else (s, true)) false ls = (ls.any P, !(ls.any P)) := by
  induction ls with
  | nil => rfl
  | cons l ls ih =>
    simp only [run, List.any_cons]
    cases h : P l <;> simp [h, ih]
theorem c31 (b : Bk) (hb : b.fit) (k n : Int) : icall pr (.fn 31 [] []) [b.v, .int .i64 k, .int .i64 n] = some (.tup [.bool (b.fitsQ k n).1, .int .i64 (b.fitsQ k n).2]) := by
  have hcg := chg_ok b
  have c1 := c67 b hb k
  have hdec : decide (0 ≤ k ∧ k < b.ms.length) = isMv b k := rfl
  rw [hdec] at c1
  have c4 := c59 n 0 6
  have c2 := c66 b hb (isMv b k && decide (0 ≤ n ∧ n ≤ 6))
  refine icall_fn fn31 rfl (by simp) (by simp) rfl ?_
  have hE : b.fitsQ k n = if askE b (isMv b k && decide (0 ≤ n ∧ n ≤ 6)) = 0 then (b.T.any (fun l => decide (l.getD k.toNat 0 = n)), 0) else (false, askE b (isMv b k && decide (0 ≤ n ∧ n ≤ 6))) := rfl
  rw [hE]
  generalize hQ : decide (0 ≤ n ∧ n ≤ 6) = Q at *
  by_cases hz : askE b (isMv b k && Q) = 0
  · rw [hz, askB_op hz] at c2
    obtain ⟨h1, h2, h3⟩ := askE_zero.1 hz
    simp only [Bool.and_eq_true] at h2
    obtain ⟨h4, h5⟩ := h2
    rw [h4, h5, Bool.and_self] at c2
    rw [h4] at c1
    rw [h5] at c4
    simp only [isMv, decide_eq_true_eq] at h4
    have hlen := ok_len h1
    obtain ⟨q, rfl⟩ := Int.eq_ofNat_of_zero_le h4.1
    have hq5 : (q : Int) < 5 := by omega
    rw [if_pos hz]
    generalize hA0 : b.T.any (fun l => decide (l.getD (q : Int).toNat 0 = n)) = A
    simp [g31_stone_Fits, g31_stone_Fits_c, c1, c2, c4, c82 b [] _ _ hcg]
    refine wpr_seq (wpr_oblock (wpr_mono (range_truths b h1 [] (by simp) _ _ hcg (fun j => j = 0 ∨ j = 1) (fun (s : Bool) h => 2 ≤ h.n ∧ h.get 0 = some (.cells [.bool s]) ∧ h.get 1 = some (.cells [.int .i64 0])) (fun (s : Bool) l => if decide (l.getD q 0 = n) then (true, false) else (s, true)) _ _ _ _ _ _ false rfl ?_ ?_ ?_ ?_) ?_))
    · rintro j (rfl | rfl) <;> simp
    · rintro s h h' h1 h3 ⟨h0, h2, h4⟩; exact ⟨by omega, by rw [h1 _ (.inl rfl)]; exact h2, by rw [h1 _ (.inr rfl)]; exact h4⟩
    · intro l hl
      have htl := tcell_len (b := b) hl (show b.hs.length ≤ 4 by omega)
      have hp := part_iv1 (l := tcell b l b.hs.length) (k := q) (by omega)
      rw [tcell_l hl _ (by omega)] at hp
      refine ⟨_, fun h' => by simp [htl, splice]; rfl, fun s h' hn hg => ?_⟩
      obtain ⟨h0, h2, h4⟩ := hg
      by_cases hx : l.getD q 0 = n
      · rw [hx] at hp
        simp only [List.getD_eq_getElem?_getD] at hx
        simp [g31_stone_Fits_b0, h2, h4, onB, hp, hq5, hx, h0]
        intro j h1 h2; simp [h1, h2]
      · have hx' : ¬ l[q]?.getD 0 = n := by simpa [List.getD_eq_getElem?_getD] using hx
        simp [g31_stone_Fits_b0, h2, h4, onB, hp, hq5, hx', h0]
    · simp
    · rintro o e h ⟨rfl, hu, hn, hfr, ho⟩
      rw [run_find] at hu ho
      obtain ⟨h0, h2, h4⟩ := hu
      have hA : (b.all (inL [])).any (fun l => decide (l.getD q 0 = n)) = A := hA0
      rw [hA] at ho h2
      cases A with
      | true =>
        simp at ho
        subst ho
        simp [onB, onN, h2, h4, results, rdRess, rdRes]
      | false =>
        simp at ho
        subst ho
        simp [onB, onN, h2, h4, results, rdRess, rdRes]
  · rw [if_neg hz]
    cases hh : isMv b k with
    | true =>
      rw [hh] at c1 c2 hz
      rcases askB_or b (true && Q) with hB | hB <;> rw [hB] at c2 <;> simp only [Bool.true_and] at c2 hz <;>
        simp [g31_stone_Fits, g31_stone_Fits_c, c1, c2, c4, results, rdRess, rdRes, hz]
    | false =>
      rw [hh] at c1 c2 hz
      rcases askB_or b (false && Q) with hB | hB <;> rw [hB] at c2 <;> simp only [Bool.false_and] at c2 hz <;>
        simp [g31_stone_Fits, g31_stone_Fits_c, c1, c2, c4, results, rdRess, rdRes, hz]
end Av
end

section
/- Contracts: Liars. -/
set_option linter.unusedSimpArgs false
set_option linter.unusedVariables false
namespace Av
open Go (IntKind BinOp UnOp)

theorem ofInt_nat (a : Nat) (h : a < 1000000) : (BitVec.ofInt (IntKind.bits .i64) (a : Int)).toNat = a := by
  show (BitVec.ofInt 64 (a : Int)).toNat = a
  rw [BitVec.toNat_ofInt]; omega
theorem bin_or (a c : Nat) (ha : a < 64) (hc : c < 64) : bin .or (.int .i64 a) (.int .i64 c) = some (.int .i64 ((a ||| c : Nat) : Int)) := by
  have h1 : a ||| c < 64 := Nat.or_lt_two_pow (n := 6) ha hc
  have hb : IntKind.bits .i64 = 64 := rfl
  simp only [bin, binI, if_true, BitVec.toNat_or, ofInt_nat a (by omega), ofInt_nat c (by omega)]
  rw [wrap_id (by omega) (by omega)]
theorem bin_and (a c : Nat) (ha : a < 64) (hc : c < 64) : bin .and (.int .i64 a) (.int .i64 c) = some (.int .i64 ((a &&& c : Nat) : Int)) := by
  have h1 : a &&& c ≤ a := Nat.and_le_left
  have hb : IntKind.bits .i64 = 64 := rfl
  simp only [bin, binI, if_true, BitVec.toNat_and, ofInt_nat a (by omega), ofInt_nat c (by omega)]
  rw [wrap_id (by omega) (by omega)]
theorem bin_shl (c : Nat) (hc : c < 6) : bin .shl (.int .i64 1) (.int .i64 c) = some (.int .i64 ((2 ^ c : Nat) : Int)) := by
  rcases (show c = 0 ∨ c = 1 ∨ c = 2 ∨ c = 3 ∨ c = 4 ∨ c = 5 by omega) with rfl | rfl | rfl | rfl | rfl | rfl <;> rfl
theorem bin_shr (s c : Nat) (hs : s < 64) (hc : c < 6) : bin .shr (.int .i64 s) (.int .i64 c) = some (.int .i64 ((s / 2 ^ c : Nat) : Int)) := by
  have h1 : ¬ (c : Int) < 0 := by omega
  have hb : IntKind.bits .i64 = 64 := rfl
  have h2 : min c 64 = c := by omega
  simp only [bin, shift, h1, if_false, Int.toNat_natCast, hb, h2]
  congr 2
  rw [Int.fdiv_eq_ediv_of_nonneg _ (by exact Int.pow_nonneg (by omega))]
  push_cast; rfl

/-- who told too many, if loads had so much: a set -/
def liedTo (ms : List Mv) (l : List Int) : Nat → Nat
  | 0 => 0
  | k + 1 => liedTo ms l k ||| (match ms[k]? with | some m => if l.getD k 0 < m.n then 2 ^ m.c.toNat else 0 | none => 0)
theorem liedTo_lt {b : Bk} (hok : b.ok = true) (l : List Int) (k : Nat) : liedTo b.ms l k < 16 := by
  induction k with
  | zero => simp [liedTo]
  | succ k ih =>
    simp only [liedTo]
    refine Nat.or_lt_two_pow (n := 4) ih ?_
    cases hm : b.ms[k]? with
    | none => simp
    | some m =>
      have := ok_mv hok hm
      dsimp only
      split
      · rcases (show m.c.toNat = 0 ∨ m.c.toNat = 1 ∨ m.c.toNat = 2 ∨ m.c.toNat = 3 by omega) with h | h | h | h <;> simp [h]
      · simp
theorem c83 (b : Bk) (hok : b.ok = true) (L : List Int) (l : List Int) (hl : lok l) : icall pr (.fn 83 [] []) [opV b L, .agg (iv l)] = some (.int .i64 (liedTo b.ms l b.ms.length : Nat)) := by
  have hcg := chg_ok b
  have hlen := ok_len hok
  refine icall_fn fn83 rfl (by simp) (by simp [hcg.1, hcg.2.1]) rfl ?_
  simp [g83_stone_book_lied, g83_stone_book_lied_c]
  refine wpr_seq (wpr_oblock (loop_up pr (fun k e h => e 3 = .lbox 0 (iv l) ∧ e 10 = .sl (mvs b.ms) .shut ∧ e 11 = .int .i64 b.ms.length ∧ e 12 = .int .i64 k ∧ e 5 = .int .i64 (liedTo b.ms l k : Nat)) b.ms.length ?_ ?_ 0 _ _ (by omega) ⟨rfl, rfl, rfl, rfl, rfl⟩))
  · rintro k e h hk ⟨e3, e10, e11, e12, e5⟩
    have hw : IntKind.wrap .i64 ((k : Int) + 1) = k + 1 := wrap_id (by omega) (by omega)
    have hp := part_iv1 (l := l) (k := k) (by rw [hl.1]; omega)
    have hk5 : (k : Int) < 5 := by omega
    have hm : b.ms[k]? = some b.ms[k] := List.getElem?_eq_getElem hk
    have hmo := ok_mv hok hm
    have hlt := liedTo_lt hok l k
    have hs : liedTo b.ms l (k + 1) = liedTo b.ms l k ||| (if l.getD k 0 < b.ms[k].n then 2 ^ b.ms[k].c.toNat else 0) := by simp only [liedTo, hm]
    generalize hmm : b.ms[k] = m at *
    obtain ⟨c, hc⟩ := Int.eq_ofNat_of_zero_le hmo.2.2.2.1
    have h1 := bin_shl c (by omega)
    have h16 : 2 ^ c < 64 := by rcases (show c = 0 ∨ c = 1 ∨ c = 2 ∨ c = 3 by omega) with h | h | h | h <;> simp [h]
    have h2 := bin_or (liedTo b.ms l k) (2 ^ c) (by omega) h16
    rw [hc] at hs
    generalize l.getD k 0 = n at *
    generalize liedTo b.ms l k = s at *
    generalize hz : 2 ^ c = z at *
    simp only [Int.toNat_natCast, hz] at hs
    by_cases hn : n < m.n
    · simp [g83_stone_book_lied_l0, e3, e10, e11, e12, e5, hk, hmm, hw, hp, hk5, hn, hc, h1, h2, hs]
    · simp [g83_stone_book_lied_l0, e3, e10, e11, e12, e5, hk, hmm, hw, hp, hk5, hn, hs]
  · rintro e h ⟨e3, e10, e11, e12, e5⟩
    simp [g83_stone_book_lied_l0, e10, e11, e12, e5, onB, onN, results, rdRess, rdRes]

def liarSt (b : Bk) (s : Nat) (l : List Int) : Nat × Bool := (s &&& liedTo b.ms l b.ms.length, true)
theorem liar_go (b : Bk) (s : Nat) (ls : List (List Int)) : (run (liarSt b) s ls).2 = true ∧ (run (liarSt b) s ls).1 ≤ s := by
  induction ls generalizing s with
  | nil => exact ⟨rfl, Nat.le_refl _⟩
  | cons l ls ih =>
    have := ih (s &&& liedTo b.ms l b.ms.length)
    have h2 : s &&& liedTo b.ms l b.ms.length ≤ s := Nat.and_le_left
    simp only [run, liarSt, if_true]
    exact ⟨this.1, Nat.le_trans this.2 h2⟩
/-- a set's numbers below k -/
def outs (s : Nat) (k : Nat) : List Int := ((List.range k).filter fun c => s / 2 ^ c % 2 == 1).map fun (c : Nat) => (c : Int)
theorem outs_succ (s k : Nat) : outs s (k + 1) = outs s k ++ (if s / 2 ^ k % 2 = 1 then [(k : Int)] else []) := by
  simp only [outs, List.range_succ, List.filter_append, List.map_append]
  by_cases h : s / 2 ^ k % 2 = 1 <;> simp [List.filter_cons, h]
theorem outs_len (s k : Nat) : (outs s k).length ≤ k := by
  simp only [outs, List.length_map]
  exact Nat.le_trans (List.length_filter_le _ _) (by simp)
def Bk.liars (b : Bk) : List Int × Int := if askE b true = 0 then (outs (run (liarSt b) 15 b.T).1 4, 0) else ([], askE b true)
theorem c28 (b : Bk) (hb : b.fit) : icall pr (.fn 28 [] []) [b.v] = some (.tup [.sl (iv b.liars.1) .shut, .int .i64 b.liars.2]) := by
  have hcg := chg_ok b
  have c2 := c66 b hb true
  refine icall_fn fn28 rfl (by simp) (by simp) (by simp) ?_
  have hE : b.liars = if askE b true = 0 then (outs (run (liarSt b) 15 b.T).1 4, 0) else ([], askE b true) := rfl
  rw [hE]
  by_cases hz : askE b true = 0
  · rw [hz, askB_op hz] at c2
    obtain ⟨h1, h2, h3⟩ := askE_zero.1 hz
    have hlen := ok_len h1
    rw [if_pos hz]
    simp [g28_stone_Liars, g28_stone_Liars_c, c2, c82 b [] _ _ hcg]
    refine wpr_seq (wpr_oblock (wpr_mono (range_truths b h1 [] (by simp) _ _ hcg (fun j => j = 0) (fun (s : Nat) h => s < 16 ∧ 1 ≤ h.n ∧ h.get 0 = some (.cells [.int .i64 s])) (liarSt b) _ _ _ _ _ _ 15 rfl ?_ ?_ ?_ ?_) ?_))
    · rintro j rfl; simp
    · rintro s h h' h1 h3 ⟨h5, h0, h2⟩; exact ⟨h5, by omega, by rw [h1 _ rfl]; exact h2⟩
    · intro l hl
      have htl := tcell_len (b := b) hl (show b.hs.length ≤ 4 by omega)
      have hpa : part (iv (tcell b l b.hs.length)) 0 5 true = some (.agg (iv l)) := by
        rw [part, if_pos (by rw [iv_len]; omega), if_pos rfl, List.drop_zero, iv, ← List.map_take]
        congr 3
        rw [tcell, List.append_assoc, List.take_left' hl.1]
      have c3 := c83 b h1 [] l hl
      refine ⟨_, fun h' => by simp [htl, splice]; rfl, fun s h' hn hg => ?_⟩
      obtain ⟨h5, h0, h2⟩ := hg
      have h4 := bin_and s (liedTo b.ms l b.ms.length) (by omega) (by have := liedTo_lt h1 l b.ms.length; omega)
      have h00 : 0 < h'.n := by omega
      have h6 : s &&& liedTo b.ms l b.ms.length < 16 := by have : s &&& liedTo b.ms l b.ms.length ≤ s := Nat.and_le_left; omega
      generalize hy : s &&& liedTo b.ms l b.ms.length = y at *
      simp [g28_stone_Liars_b0, h2, onB, hpa, c3, h4, h0, h00, liarSt, hy, h6]
      exact fun j h1 h2 => absurd h2 h1
    · simp
    · rintro o e h ⟨rfl, hu, hn, hfr, ho⟩
      rw [(liar_go b 15 _).1] at ho
      obtain ⟨h5, h0, h2⟩ := hu
      simp at ho
      subst ho
      have hR : (run (liarSt b) 15 b.T).1 = (run (liarSt b) 15 (b.all (inL []))).1 := rfl
      rw [hR]
      generalize (run (liarSt b) 15 (b.all (inL []))).1 = s at *
      simp [onB, onN]
      refine wpr_seq (wpr_oblock (loop_up pr (fun k e h => e 6 = .ptr 0 0 ∧ 1 ≤ h.n ∧ h.get 0 = some (.cells [.int .i64 s]) ∧ e 27 = .int .i64 k ∧ ∃ kk, e 8 = .sl (iv (outs s k)) kk ∧ Opn h kk) 4 ?_ ?_ 0 _ _ (by omega) ⟨rfl, h0, h2, rfl, .exact, rfl, trivial⟩))
      · rintro k e h hk ⟨e6, h0, h2, e27, kk, e8, hop⟩
        have hk4 : (k : Int) < 4 := by omega
        have h00 : 0 < h.n := by omega
        have hw : IntKind.wrap .i64 ((k : Int) + 1) = k + 1 := wrap_id (by omega) (by omega)
        have hlt : s / 2 ^ k < 64 := Nat.lt_of_le_of_lt (Nat.div_le_self _ _) (by omega)
        have b1 := bin_shr s k (by omega) (by omega)
        have b2 := bin_and (s / 2 ^ k) 1 hlt (by omega)
        have hs := outs_succ s k
        have hol := outs_len s k
        rw [Nat.and_one_is_mod] at b2
        generalize hq : s / 2 ^ k = q at *
        generalize hy : q % 2 = y at *
        simp only [Int.natCast_one] at b2
        by_cases h1y : y = 1
        · obtain ⟨k2, h2', ha, hb2, hn2, hfr2⟩ := app_ok (bytes := 8) (new := [.int .i64 k]) (k2 := .exact) (sz := 1) (es := iv (outs s k)) hop (by simp) (iv_cell1 _) (by simp) (by simp; omega)
          rw [if_pos h1y] at hs
          have hg0 : h2'.get 0 = some (.cells [.int .i64 s]) := by rw [hfr2 0 (by omega) (by rw [h2]; simp)]; exact h2
          simp at ha
          subst h1y
          simp [g28_stone_Liars_l1, e6, h2, e27, e8, hk4, h00, b1, b2, ha, hw, hs, hg0, hb2]
          omega
        · rw [if_neg h1y] at hs
          have h1y' : ¬ (y : Int) = 1 := by omega
          simp [g28_stone_Liars_l1, e6, h2, e27, e8, hk4, h00, b1, b2, hw, hs, h1y', hop, h0]
      · rintro e h ⟨e6, h0, h2, e27, kk, e8, hop⟩
        have ht : (iv (outs s 4)).take (outs s 4).length = iv (outs s 4) := List.take_of_length_le (by simp)
        simp [g28_stone_Liars_l1, e27, e8, onB, onN, results, rdRess, rdRes, ht]
  · rw [if_neg hz]
    rcases askB_or b true with hB | hB <;> rw [hB] at c2 <;>
      simp [g28_stone_Liars, g28_stone_Liars_c, c2, results, rdRess, rdRes, hz]
end Av
end

section
/- Contracts: Wrong. -/
set_option linter.unusedSimpArgs false
set_option linter.unusedVariables false
namespace Av
open Go (IntKind BinOp UnOp)

/-- the number behind the last one -/
def fromI : List Int → Int
  | [] => 0
  | x :: l => (x :: l).getD l.length 0 + 1
/-- the first choice of so many more tallies without which a book can be true -/
def Bk.choose (b : Bk) : Nat → List Int → Option (List Int)
  | 0, l => if b.can (inL l) then some l else none
  | d + 1, l => (List.range b.ms.length).findSome? fun (n : Nat) => if fromI l ≤ (n : Int) then b.choose d (l ++ [(n : Int)]) else none
def Bk.wrongO (b : Bk) : Option (List Int) := (List.range (b.ms.length + 1)).findSome? fun many => b.choose many []
def Bk.wrong (b : Bk) : List Int × Int := if b.ok then (match b.wrongO with | some l => (l, 0) | none => ([], 32)) else ([], 30)

abbrev chV (b : Bk) (c : Nat) : AV := .fn 84 [] [.cptr [.sl (hvs b.hs) .shut, .sl (mvs b.ms) .shut, .int .i64 b.l0, .int .i64 b.l1, .int .i64 b.l2, .int .i64 b.l3], .ptr c 0]
theorem findSome_succ {β : Type} (g : Nat → Option β) (k : Nat) (h : (List.range k).findSome? g = none) : (List.range (k + 1)).findSome? g = g k := by
  rw [List.range_succ, List.findSome?_append, h]
  simp
theorem findSome_pre {β : Type} (g : Nat → Option β) (k m : Nat) (x : β) (hkm : k ≤ m) (h : (List.range k).findSome? g = some x) : (List.range m).findSome? g = some x := by
  induction hkm with
  | refl => exact h
  | step _ ih => rw [Nat.succ_eq_add_one, List.range_succ, List.findSome?_append, ih]; rfl
theorem findSome_none {β : Type} (g : Nat → Option β) (k : Nat) (h : ∀ n, n < k → g n = none) : (List.range k).findSome? g = none := by
  rw [List.findSome?_eq_none_iff]
  intro n hn; exact h n (List.mem_range.1 hn)

theorem choose_ok (b : Bk) (hok : b.ok = true) (c : Nat) : ∀ (d many : Nat) (l : List Int) (kk : SK) (h : H), l.length + d = many → many ≤ b.ms.length → (∀ x ∈ l, 0 ≤ x ∧ x < b.ms.length) →
    h.get c = some (.cells [chV b c]) → c < h.n →
    ∃ w h', dcall pr (chV b c) [.sl (iv l) kk, .int .i64 many] h = some (w, h') ∧ ∃ es k', w = .tup [.sl es k', .bool (b.choose d l).isSome] ∧ h'.get c = some (.cells [chV b c]) ∧ c < h'.n ∧ ∀ l', b.choose d l = some l' → es = iv l' := by
  intro d
  induction d with
  | zero =>
    intro many l kk h hd hm hx hc hn
    have hlen := ok_len hok
    have hlm : many = l.length := by omega
    subst hlm
    have c1 := c56 l
    have c2 := c55 b (ok_fit hok) l
    have c3 := c57 b hok l (by omega)
    refine dcall_of fn84 rfl ?_
    simp [g84_stone_Wrong_1, g84_stone_Wrong_1_c, c1, c2, c3, results, rdRess, rdRes, Bk.choose]
    cases b.can (inL l) <;> simp [hc, hn]
  | succ d ih =>
    intro many l kk h hd hm hx hc hn
    have hlen := ok_len hok
    have hne : ¬ (l.length : Int) = many := by omega
    refine dcall_of fn84 rfl ?_
    let g : Nat → Option (List Int) := fun (n : Nat) => if fromI l ≤ (n : Int) then b.choose d (l ++ [(n : Int)]) else none
    have hg : b.choose (d + 1) l = (List.range b.ms.length).findSome? g := rfl
    rw [hg]
    have hfr : 0 ≤ fromI l ∧ fromI l ≤ b.ms.length := by
      cases l with
      | nil => simp [fromI]
      | cons x l =>
        have : (x :: l).getD l.length 0 ∈ x :: l := by
          rw [List.getD_eq_getElem?_getD, List.getElem?_eq_getElem (by simp)]
          exact List.getElem_mem _
        have := hx _ this
        simp only [fromI]; omega
    have key : ∀ e : Env, e 0 = .sl (iv l) kk → e 1 = .int .i64 many → e 2 = .cptr [.sl (hvs b.hs) .shut, .sl (mvs b.ms) .shut, .int .i64 b.l0, .int .i64 b.l1, .int .i64 b.l2, .int .i64 b.l3] → e 3 = .ptr c 0 → e 8 = .int .i64 l.length → e 10 = .int .i64 (fromI l) →
        wpr (den pr (.loop g84_stone_Wrong_1_l0) e h) fun o e' h' => h'.get c = some (.cells [chV b c]) ∧ c < h'.n ∧
          (match (List.range b.ms.length).findSome? g with | some l' => o = .ret ∧ e' 7 = .bool true ∧ ∃ k', e' 6 = .sl (iv l') k' | none => o = .exit 0) := by
      intro e e0 e1 e2 e3 e8 e10
      obtain ⟨n0, hn0⟩ := Int.eq_ofNat_of_zero_le hfr.1
      refine loop_up pr (fun k e' h' => e' 0 = e 0 ∧ e' 1 = e 1 ∧ e' 2 = e 2 ∧ e' 3 = e 3 ∧ e' 8 = e 8 ∧ e' 10 = .int .i64 k ∧ n0 ≤ k ∧ (List.range k).findSome? g = none ∧ h'.get c = some (.cells [chV b c]) ∧ c < h'.n) b.ms.length ?_ ?_ n0 e h (by omega)
        ⟨rfl, rfl, rfl, rfl, rfl, by rw [e10, hn0], Nat.le_refl _, findSome_none _ _ (fun n hnn => by simp only [g]; rw [if_neg (by omega)]), hc, hn⟩
      · rintro k e' h' hk ⟨q0, q1, q2, q3, q8, q10, hk0, hno, hcc, hcn⟩
        rw [e0] at q0; rw [e1] at q1; rw [e2] at q2; rw [e3] at q3; rw [e8] at q8
        have hw : IntKind.wrap .i64 ((k : Int) + 1) = k + 1 := wrap_id (by omega) (by omega)
        obtain ⟨k2, h2, ha, hb, hn2, hfr2⟩ := app_ok (h := h') (k := .exact) (bytes := 8) (new := [.int .i64 k]) (k2 := .exact) (sz := 1) (es := iv l) trivial (by simp) (iv_cell1 _) (by simp) (by simp; omega)
        have hcc2 : h2.get c = some (.cells [chV b c]) := by rw [hfr2 c hcn (by rw [hcc]; simp)]; exact hcc
        obtain ⟨w, h3, hd3, es3, k3, rfl, hcc3, hcn3, hv⟩ := ih many (l ++ [(k : Int)]) k2 h2 (by simp; omega) hm (by
          intro x hxx
          rcases List.mem_append.1 hxx with h1 | h1
          · exact hx x h1
          · simp at h1; subst h1; omega) hcc2 (by omega)
        have ht : (iv l).take l.length = iv l := List.take_of_length_le (by simp)
        have hgk : g k = b.choose d (l ++ [(k : Int)]) := by simp only [g]; rw [if_pos (by omega)]
        have hs := findSome_succ g k hno
        rw [hgk] at hs
        simp at ha hd3
        simp only [e0, e1, e2, e3, e8]
        cases hch : b.choose d (l ++ [(k : Int)]) with
        | none =>
          rw [hch] at hs hd3
          simp only [Option.isSome_none] at hd3
          simp [g84_stone_Wrong_1_l0, q0, q1, q2, q3, q8, q10, hk, hcc, hcn, ht, ha, hd3, hw, hs, hcc3, hcn3]
          omega
        | some l' =>
          have hv' := hv l' hch
          subst hv'
          rw [hch] at hs hd3
          simp only [Option.isSome_some] at hd3
          rw [findSome_pre g (k + 1) b.ms.length l' (by omega) hs]
          simp [g84_stone_Wrong_1_l0, q0, q1, q2, q3, q8, q10, hk, hcc, hcn, ht, ha, hd3, hw, hs, hcc3, hcn3, onB]
      · rintro e' h' ⟨q0, q1, q2, q3, q8, q10, hk0, hno, hcc, hcn⟩
        rw [e2] at q2
        simp [g84_stone_Wrong_1_l0, q2, q10, hno, hcc, hcn]
    cases l with
    | nil =>
      simp [g84_stone_Wrong_1, g84_stone_Wrong_1_c] at hne ⊢
      simp [hne]
      refine wpr_seq (wpr_oblock (wpr_mono (key _ rfl rfl rfl rfl rfl rfl) ?_))
      rintro o e h' ⟨hcc, hcn, hr⟩
      cases hf : (List.range b.ms.length).findSome? g with
      | none => rw [hf] at hr; subst hr; simp [onB, onN, results, rdRess, rdRes, hcc, hcn]
      | some l' =>
        rw [hf] at hr
        obtain ⟨rfl, q7, k', q6⟩ := hr
        simp [onB, onN, results, rdRess, rdRes, q6, q7, hcc, hcn]
    | cons x l =>
      have hel : (iv (x :: l))[l.length]? = some (.int .i64 ((x :: l).getD l.length 0)) := by
        rw [iv_get, List.getD_eq_getElem?_getD, List.getElem?_eq_getElem (by simp)]; rfl
      have hw1 : IntKind.wrap .i64 (((x :: l).length : Int) - 1) = (l.length : Int) := by
        rw [wrap_id (by simp only [List.length_cons]; omega) (by simp at hd ⊢; omega)]; simp
      have hw2 : IntKind.wrap .i64 ((x :: l).getD l.length 0 + 1) = fromI (x :: l) := by
        simp only [fromI] at hfr ⊢; exact wrap_id (by omega) (by omega)
      generalize hL : x :: l = L at *
      have hpos : 0 < L.length := by rw [← hL]; simp
      generalize (L.getD l.length 0) = z at *
      simp only [iv_get] at hel
      obtain ⟨y, hy, hyz⟩ := Option.map_eq_some_iff.1 hel
      injection hyz with _ hyz
      subst hyz
      simp [g84_stone_Wrong_1, g84_stone_Wrong_1_c, hne, hpos, hw1, hw2, hy]
      refine wpr_seq (wpr_oblock (wpr_mono (key _ rfl rfl rfl rfl rfl rfl) ?_))
      rintro o e h' ⟨hcc, hcn, hr⟩
      cases hf : (List.range b.ms.length).findSome? g with
      | none => rw [hf] at hr; subst hr; simp [onB, onN, results, rdRess, rdRes, hcc, hcn]
      | some l' =>
        rw [hf] at hr
        obtain ⟨rfl, q7, k', q6⟩ := hr
        simp [onB, onN, results, rdRess, rdRes, q6, q7, hcc, hcn]

theorem c33 (b : Bk) (hb : b.fit) : icall pr (.fn 33 [] []) [b.v] = some (.tup [.sl (iv b.wrong.1) .shut, .int .i64 b.wrong.2]) := by
  refine icall_fn fn33 rfl (by simp) (by simp) (by simp) ?_
  cases hok : b.ok with
  | false => simp [g33_stone_Wrong, g33_stone_Wrong_c, c17 b hb, hok, results, rdRess, rdRes, Bk.wrong]
  | true =>
    have hlen := ok_len hok
    have hw0 : IntKind.wrap .i64 ((b.ms.length : Int) + 1) = b.ms.length + 1 := wrap_id (by omega) (by omega)
    have hE : b.wrong = (match b.wrongO with | some l => (l, 0) | none => ([], 32)) := by simp only [Bk.wrong, hok, if_true]
    rw [hE]
    simp [g33_stone_Wrong, g33_stone_Wrong_c, c17 b hb, hok, hw0]
    refine wpr_seq (wpr_oblock (loop_up pr (fun k e h => e 5 = .ptr 0 0 ∧ e 18 = .int .i64 ((b.ms.length : Int) + 1) ∧ e 19 = .int .i64 k ∧ (List.range k).findSome? (fun many => b.choose many []) = none ∧ h.get 0 = some (.cells [chV b 0]) ∧ 0 < h.n) (b.ms.length + 1) ?_ ?_ 0 _ _ (by omega) ⟨rfl, rfl, rfl, rfl, rfl, by simp⟩))
    · rintro k e h hk ⟨e5, e18, e19, hno, hcc, hcn⟩
      have hw : IntKind.wrap .i64 ((k : Int) + 1) = k + 1 := wrap_id (by omega) (by omega)
      have hk2 : (k : Int) < (b.ms.length : Int) + 1 := by omega
      obtain ⟨w, h3, hd3, es3, k3, rfl, hcc3, hcn3, hv⟩ := choose_ok b hok 0 k k [] .exact h (by simp) (by omega) (by simp) hcc hcn
      have hs := findSome_succ (fun many => b.choose many []) k hno
      simp at hd3
      cases hch : b.choose k [] with
      | none =>
        rw [hch] at hs hd3
        simp only [Option.isSome_none] at hd3
        simp [g33_stone_Wrong_l0, e5, e18, e19, hcc, hcn, hk2, hd3, hw, hcc3, hcn3]
        simpa using hs
      | some l' =>
        have hv' := hv l' hch
        subst hv'
        rw [hch] at hs hd3
        simp only [Option.isSome_some] at hd3
        have hw' : b.wrongO = some l' := findSome_pre _ (k + 1) (b.ms.length + 1) l' (by omega) hs
        have ht : (iv l').take l'.length = iv l' := List.take_of_length_le (by simp)
        simp [g33_stone_Wrong_l0, e5, e18, e19, hcc, hcn, hk2, hd3, hw, hw', onB, onN, results, rdRess, rdRes, ht]
    · rintro e h ⟨e5, e18, e19, hno, hcc, hcn⟩
      have hw' : b.wrongO = none := hno
      simp [g33_stone_Wrong_l0, e5, e18, e19, hw', onB, onN, results, rdRess, rdRes]
end Av
end

section
/- Contracts: what references and statements share. -/
set_option linter.unusedSimpArgs false
set_option linter.unusedVariables false
namespace Av
open Go (IntKind BinOp UnOp)

@[simp] theorem eqk_span (a b c d : Int) : eqk (some 2) (.agg [.int .i64 a, .int .i64 b]) (.agg [.int .i64 c, .int .i64 d]) = some (decide (a = c ∧ b = d)) := by
  have := eqk_key (a, b) (c, d)
  simp only [Prod.mk.injEq] at this
  exact this
theorem c63 (a b c : Int) : icall pr (.fn 63 [] []) [.int .i64 a, .int .i64 b, .int .i64 c] = some (.bool (decide (b ≤ a ∧ a ≤ c))) := by
  refine icall_fn fn63 rfl rfl rfl rfl ?_
  by_cases h1 : b ≤ a <;> by_cases h2 : a ≤ c <;> simp [g63_macadamref00_Amid, g63_macadamref00_Amid_c, results, rdRess, rdRes, h1, h2]
theorem c44 (a b : Int) : icall pr (.fn 44 [] []) [.int .i64 a, .int .i64 b] = some (.agg [.int .i64 a, .int .i64 b]) := by
  refine icall_fn fn44 rfl rfl rfl rfl ?_
  simp [g44_macadamref00_Reach, g44_macadamref00_Reach_c, results, rdRess, rdRes]
theorem c41 (a : Int) : icall pr (.fn 41 [] []) [.int .i64 a] = some (.agg [.int .i64 a, .int .i64 a]) := by
  refine icall_fn fn41 rfl rfl rfl rfl ?_
  simp [g41_macadamref00_Just, g41_macadamref00_Just_c, results, rdRess, rdRes, c44]
theorem c39 (a b n : Int) : icall pr (.fn 39 [] []) [.agg [.int .i64 a, .int .i64 b], .int .i64 n] = some (.bool (decide (a ≤ n ∧ n ≤ b))) := by
  refine icall_fn fn39 rfl rfl rfl rfl ?_
  simp [g39_macadamref00_Holds, g39_macadamref00_Holds_c, results, rdRess, rdRes, c63]
theorem c43 (a b c d : Int) : icall pr (.fn 43 [] []) [.agg [.int .i64 a, .int .i64 b], .agg [.int .i64 c, .int .i64 d]] = some (.bool (decide (a ≤ c ∧ d ≤ b))) := by
  refine icall_fn fn43 rfl rfl rfl rfl ?_
  by_cases h1 : a ≤ c <;> by_cases h2 : d ≤ b <;> simp [g43_macadamref00_Inner, g43_macadamref00_Inner_c, results, rdRess, rdRes, h1, h2]
theorem c45 (a b c d : Int) (h1 : -1000000 ≤ a ∧ a ≤ 1000000) (h2 : -1000000 ≤ b ∧ b ≤ 1000000) (h3 : -1000000 ≤ c ∧ c ≤ 1000000) (h4 : -1000000 ≤ d ∧ d ≤ 1000000) :
    icall pr (.fn 45 [] []) [.agg [.int .i64 a, .int .i64 b], .agg [.int .i64 c, .int .i64 d]] = some (.agg [.int .i64 (a + c), .int .i64 (b + d)]) := by
  refine icall_fn fn45 rfl rfl rfl rfl ?_
  have w1 : IntKind.wrap .i64 (a + c) = a + c := wrap_id (by omega) (by omega)
  have w2 : IntKind.wrap .i64 (b + d) = b + d := wrap_id (by omega) (by omega)
  simp [g45_macadamref00_Sum, g45_macadamref00_Sum_c, results, rdRess, rdRes, c44, w1, w2]
theorem c42 (a b f l w : Int) (hf : -1000000 ≤ f ∧ f ≤ 1000000) (hl : -1000000 ≤ l ∧ l ≤ 1000000) : icall pr (.fn 42 [] []) [.agg [.int .i64 a, .int .i64 b], .int .i64 f, .int .i64 l, .int .i64 w] = some (.bool (decide (f ≤ a ∧ a ≤ b ∧ b ≤ l ∧ b - a ≤ w))) := by
  refine icall_fn fn42 rfl rfl rfl rfl ?_
  by_cases h1 : f ≤ a <;> by_cases h2 : a ≤ b <;> by_cases h3 : b ≤ l
  · have w1 : IntKind.wrap .i64 (b - a) = b - a := wrap_id (by omega) (by omega)
    simp [g42_macadamref00_Sane, g42_macadamref00_Sane_c, results, rdRess, rdRes, h1, h2, h3, w1]
  all_goals simp [g42_macadamref00_Sane, g42_macadamref00_Sane_c, results, rdRess, rdRes, h1, h2, h3]
/-- any number, brought to one below another -/
def wrapI (n m : Int) : Int := if m ≤ 0 then 0 else n % m
theorem wrapI_bd (n : Int) {m : Int} (h : 0 < m) : 0 ≤ wrapI n m ∧ wrapI n m < m := by
  unfold wrapI; rw [if_neg (by omega)]
  exact ⟨Int.emod_nonneg _ (by omega), Int.emod_lt_of_pos _ h⟩
theorem tmod_wrap (n m : Int) (h : 0 < m) : (if n.tmod m < 0 then n.tmod m + m else n.tmod m) = n % m := by
  have h1 := Int.tmod_add_mul_tdiv n m
  have h2 : n.tmod m < m := Int.tmod_lt_of_pos n h
  have h3 : -m < n.tmod m := by
    have := Int.lt_tmod_of_pos n h; omega
  split
  · have : n = (n.tmod m + m) + m * (n.tdiv m - 1) := by rw [Int.mul_sub]; omega
    rw [this, Int.add_mul_emod_self_left, Int.emod_eq_of_lt (by omega) (by omega)]
    rw [← this]
  · have : n = n.tmod m + m * n.tdiv m := by omega
    rw [this, Int.add_mul_emod_self_left, Int.emod_eq_of_lt (by omega) (by omega)]
    rw [← this]
theorem c38 (n m : Int) (hm : m ≤ 1000000) : icall pr (.fn 38 [] []) [.int .i64 n, .int .i64 m] = some (.int .i64 (wrapI n m)) := by
  refine icall_fn fn38 rfl rfl rfl rfl ?_
  by_cases h1 : m ≤ 0
  · simp [g38_macadamref00_Wrap, g38_macadamref00_Wrap_c, results, rdRess, rdRes, h1, wrapI]
  · have h0 : m ≠ 0 := by omega
    have h2 : n.tmod m < m := Int.tmod_lt_of_pos n (by omega)
    have h3 : -m < n.tmod m := by have := Int.lt_tmod_of_pos n (show 0 < m by omega); omega
    have hw : IntKind.wrap .i64 (n.tmod m + m) = n.tmod m + m := wrap_id (by omega) (by omega)
    have ht := tmod_wrap n m (by omega)
    have hW : wrapI n m = n % m := by rw [wrapI, if_neg h1]
    rw [hW, ← ht]
    by_cases h4 : n.tmod m < 0 <;> simp [g38_macadamref00_Wrap, g38_macadamref00_Wrap_c, results, rdRess, rdRes, h1, h0, h4, hw]
theorem c30 (l m : List Int) (hl : (l.length : Int) ≤ 9223372036854775807) : icall pr (.fn 30 [] []) [.sl (iv l) .shut, .sl (iv m) .shut] = some (.bool (decide (l = m))) := by
  refine icall_fn fn30 rfl (by simp) (by simp) rfl ?_
  simp [g30_macadamref00_Like, g30_macadamref00_Like_c]
  refine wpr_seq (wpr_oblock (loop_up pr (fun k e h => e 0 = .sl (iv l) .shut ∧ e 1 = .sl (iv m) .shut ∧ e 6 = .int .i64 k ∧ e 5 = .bool (decide (l.length = m.length ∧ l.take k = m.take k))) l.length ?_ ?_ 0 _ _ (by omega) ⟨rfl, rfl, rfl, by simp; omega⟩))
  · rintro k e h hk ⟨e0, e1, e6, e5⟩
    have hw : IntKind.wrap .i64 ((k : Int) + 1) = k + 1 := wrap_id (by omega) (by omega)
    by_cases hp : l.length = m.length ∧ l.take k = m.take k
    · have hkm : k < m.length := by omega
      rw [decide_eq_true hp] at e5
      have hp2 : decide (l.length = m.length ∧ l.take (k + 1) = m.take (k + 1)) = decide (l[k] = m[k]) := by
        apply decide_eq_decide.2
        have h1 : l.take (k + 1) = l.take k ++ [l[k]] := by rw [List.take_add_one, List.getElem?_eq_getElem hk]; rfl
        have h2 : m.take (k + 1) = m.take k ++ [m[k]] := by rw [List.take_add_one, List.getElem?_eq_getElem hkm]; rfl
        rw [h1, h2, hp.2, List.append_right_inj]
        simp [hp.1]
      rw [hp2]
      simp [g30_macadamref00_Like_l0, e0, e1, e6, e5, hk, hkm, hw]
    · rw [decide_eq_false hp] at e5
      have hne : ¬ l = m := by rintro rfl; exact hp ⟨rfl, rfl⟩
      simp [g30_macadamref00_Like_l0, e0, e1, e6, e5, onB, onN, results, rdRess, rdRes, hne]
  · rintro e h ⟨e0, e1, e6, e5⟩
    have hq : decide (l.length = m.length ∧ l.take l.length = m.take l.length) = decide (l = m) := by
      apply decide_eq_decide.2
      constructor
      · rintro ⟨h1, h2⟩; rw [List.take_length, h1, List.take_length] at h2; exact h2
      · rintro rfl; exact ⟨rfl, rfl⟩
    rw [hq] at e5
    by_cases hlm : l = m
    · rw [decide_eq_true hlm] at e5
      simp [g30_macadamref00_Like_l0, e0, e1, e6, e5, onB, onN, results, rdRess, rdRes, hlm]
    · rw [decide_eq_false hlm] at e5
      simp [g30_macadamref00_Like_l0, e0, e1, e6, e5, onB, onN, results, rdRess, rdRes, hlm]
theorem c101 (a b c d : Int) : icall pr (.fn 101 [] []) [.int .i64 a, .int .i64 b, .int .i64 c, .int .i64 d] = some (.agg [.int .i64 a, .int .i64 b, .int .i64 c, .int .i64 d]) := by
  refine icall_fn fn101 rfl rfl rfl rfl ?_
  simp [g101_macadamlaw03_move, g101_macadamlaw03_move_c, results, rdRess, rdRes]

/-- the chapter's books -/
def exB (c d : Int) : Bk := ⟨[⟨10, 12, 2, 3⟩, ⟨5, 5, c, d⟩], [⟨-1, 0, 0, 4⟩, ⟨0, 1, 1, 6⟩, ⟨0, -1, 1, 5⟩, ⟨1, -1, 0, 6⟩], 1, 2, 0, 0⟩
theorem c89 (c d : Int) : icall pr (.fn 89 [] []) [.agg [.int .i64 c, .int .i64 d]] = some (exB c d).v := by
  refine icall_fn fn89 rfl rfl rfl rfl ?_
  simp [g89_macadamlaw03_book, g89_macadamlaw03_book_c, results, rdRess, rdRes, c44, c41, c101, exB, hvs, mvs, List.replicate]
theorem c52 : icall pr (.fn 52 [] []) [] = some (exB 4 6).v := by
  refine icall_fn fn52 rfl rfl rfl rfl ?_
  simp [g52_macadamlaw03_own, g52_macadamlaw03_own_c, results, rdRess, rdRes, c44, c89]
theorem c53 : icall pr (.fn 53 [] []) [] = some (exB 9 9).v := by
  refine icall_fn fn53 rfl rfl rfl rfl ?_
  simp [g53_macadamlaw03_torn, g53_macadamlaw03_torn_c, results, rdRess, rdRes, c41, c89]
theorem c54 : icall pr (.fn 54 [] []) [] = some (exB 6 6).v := by
  refine icall_fn fn54 rfl rfl rfl rfl ?_
  simp [g54_macadamlaw03_full, g54_macadamlaw03_full_c, results, rdRess, rdRes, c41, c89]
theorem ex_fit (c d : Int) : (exB c d).fit := by constructor <;> simp [exB]
theorem x1 : (exB 4 6).yards 2 = ((4, 5), 0) := by decide +kernel
theorem x2 : (exB 4 6).heap 0 1 = ((13, 14), 0) := by decide +kernel
theorem x3 : (exB 4 6).laid = ((9, 11), 0) := by decide +kernel
theorem x4 : (exB 4 6).owed 1 2 = ((20, 22), 0) := by decide +kernel
theorem x5 : (exB 6 6).liars = ([0], 0) := by decide +kernel
theorem x6 : (exB 4 6).fitsQ 1 5 = (true, 0) := by decide +kernel
theorem x7 : (exB 9 9).wrong = ([3], 0) := by decide +kernel
theorem x8 : ((exB 4 6).ok && (exB 4 6).can (inL [])) = true := by decide +kernel
theorem x9 : (exB 4 6).ok = true := by decide +kernel
theorem c23 : icall pr (.fn 23 [] []) [] = some (.bool true) := by
  refine icall_fn fn23 rfl rfl rfl rfl ?_
  have y1 := c19 (exB 4 6) (ex_fit _ _) 2
  have y2 := c21 (exB 4 6) (ex_fit _ _) 0 1
  have y3 := c24 (exB 4 6) (ex_fit _ _)
  have y4 := c26 (exB 4 6) (ex_fit _ _) 1 2
  have y5 := c28 (exB 6 6) (ex_fit _ _)
  have y6 := c31 (exB 4 6) (ex_fit _ _) 1 5
  have y7 := c33 (exB 9 9) (ex_fit _ _)
  have y8 := c15 (exB 4 6) (ex_fit _ _)
  have y9 := c30 [0] [0] (by simp)
  have y10 := c30 [3] [3] (by simp)
  rw [x1] at y1
  rw [x2] at y2
  rw [x3] at y3
  rw [x4] at y4
  rw [x5] at y5
  rw [x6] at y6
  rw [x7] at y7
  rw [x8, x9] at y8
  simp only [iv_cons, iv_nil] at y5 y7 y9 y10
  simp [g23_macadamlaw03_heaped, g23_macadamlaw03_heaped_c, results, rdRess, rdRes, c44, c52, c53, c54, y1, y2, y3, y4, y5, y6, y7, y8, y9, y10]
end Av
end

section
/- Contracts: sound, Rising, Set, Place. -/
set_option linter.unusedSimpArgs false
set_option linter.unusedVariables false
namespace Av
open Go (IntKind BinOp UnOp)

theorem c35 (b : Bk) (hb : b.fit) : icall pr (.fn 35 [] []) [b.v] = some (.bool b.ok) := by
  refine icall_fn fn35 rfl rfl (by simp) rfl ?_
  have c1 := c17 b hb
  cases hok : b.ok with
  | false =>
    rw [hok] at c1
    simp [g35_macadamlaw03_sound, g35_macadamlaw03_sound_c, c1]
    rw [r_loop]
    simp [g35_macadamlaw03_sound_l0]
    rw [r_loop]
    simp [g35_macadamlaw03_sound_l1]
    rw [r_loop]
    simp [g35_macadamlaw03_sound_l2, results, rdRess, rdRes]
  | true =>
    rw [hok] at c1
    have hlen := ok_len hok
    have c2 := c63 b.hs.length 1 4
    rw [decide_eq_true (by omega)] at c2
    have h5 : (b.ms.length : Int) ≤ 5 := by omega
    have hlies := ok_lies hok
    simp [g35_macadamlaw03_sound, g35_macadamlaw03_sound_c, c1, c2, h5]
    refine wpr_seq (wpr_oblock (loop_up pr (fun k e h => e 1 = b.bx ∧ e 3 = .bool true ∧ e 4 = .int .i64 k) b.hs.length ?_ ?_ 0 _ _ (by omega) ⟨rfl, by simp, rfl⟩))
    · rintro k e h hk ⟨e1, e3, e4⟩
      have hw : IntKind.wrap .i64 ((k : Int) + 1) = k + 1 := wrap_id (by omega) (by omega)
      have hx : b.hs[k]? = some b.hs[k] := List.getElem?_eq_getElem hk
      have hxo := ok_hp hok hx
      have d1 := c42 b.hs[k].a b.hs[k].b 0 60 4 (by omega) (by omega)
      have d2 := c42 b.hs[k].c b.hs[k].d 0 99 99 (by omega) (by omega)
      rw [decide_eq_true (by omega)] at d1
      rw [decide_eq_true (by omega)] at d2
      generalize hxx : b.hs[k] = x at *
      simp [g35_macadamlaw03_sound_l0, e1, e3, e4, hk, hw, d1, d2, hxx]
    · rintro e h ⟨e1, e3, e4⟩
      simp [g35_macadamlaw03_sound_l0, e1, e3, e4, onB, onN]
      refine wpr_seq (wpr_oblock (loop_up pr (fun k e h => e 1 = b.bx ∧ e 3 = .bool true ∧ e 5 = .int .i64 k) b.ms.length ?_ ?_ 0 _ _ (by omega) ⟨by simp [e1], by simp [e3], rfl⟩))
      · rintro k e h hk ⟨e1, e3, e5⟩
        have hw : IntKind.wrap .i64 ((k : Int) + 1) = k + 1 := wrap_id (by omega) (by omega)
        have hw2 : IntKind.wrap .i64 ((b.hs.length : Int) - 1) = b.hs.length - 1 := wrap_id (by omega) (by omega)
        have hx : b.ms[k]? = some b.ms[k] := List.getElem?_eq_getElem hk
        have hxo := ok_mv hok hx
        have d1 := c63 b.ms[k].f (-1) (b.hs.length - 1)
        have d2 := c63 b.ms[k].t (-1) (b.hs.length - 1)
        have d3 := c63 b.ms[k].c 0 3
        have d4 := c63 b.ms[k].n 0 6
        rw [decide_eq_true (by omega)] at d1
        rw [decide_eq_true (by omega)] at d2
        rw [decide_eq_true (by omega)] at d3
        rw [decide_eq_true (by omega)] at d4
        generalize hxx : b.ms[k] = x at *
        simp [g35_macadamlaw03_sound_l1, e1, e3, e5, hk, hw, hw2, d1, d2, d3, d4, hxx]
      · rintro e h ⟨e1, e3, e5⟩
        simp [g35_macadamlaw03_sound_l1, e1, e3, e5, onB, onN]
        refine wpr_seq (wpr_oblock (loop_up pr (fun k e h => e 1 = b.bx ∧ e 3 = .bool true ∧ e 7 = .int .i64 k) 4 ?_ ?_ 0 _ _ (by omega) ⟨by simp [e1], by simp [e3], rfl⟩))
        · rintro k e h hk ⟨e1, e3, e7⟩
          have hw : IntKind.wrap .i64 ((k : Int) + 1) = k + 1 := wrap_id (by omega) (by omega)
          have d0 := c63 b.l0 0 2
          have d1 := c63 b.l1 0 2
          have d2 := c63 b.l2 0 2
          have d3 := c63 b.l3 0 2
          rw [decide_eq_true (by omega)] at d0
          rw [decide_eq_true (by omega)] at d1
          rw [decide_eq_true (by omega)] at d2
          rw [decide_eq_true (by omega)] at d3
          have w4 : IntKind.wrap .i64 3 = 3 := rfl
          have w5 : IntKind.wrap .i64 4 = 4 := rfl
          rcases (show k = 0 ∨ k = 1 ∨ k = 2 ∨ k = 3 by omega) with rfl | rfl | rfl | rfl <;>
            simp [g35_macadamlaw03_sound_l2, e1, e3, e7, d0, d1, d2, d3, w4, w5]
        · rintro e h ⟨e1, e3, e7⟩
          simp [g35_macadamlaw03_sound_l2, e1, e3, e7, onB, onN, results, rdRess, rdRes]

/-- does a list rise, each number behind the last one and below another? -/
def rising (below : Int) : Int → List Int → Bool
  | _, [] => true
  | last, x :: l => decide (last < x ∧ x < below) && rising below x l
theorem c40 (l : List Int) (hl : (l.length : Int) ≤ 9223372036854775807) (n : Int) : icall pr (.fn 40 [] []) [.sl (iv l) .shut, .int .i64 n] = some (.bool (rising n (-1) l)) := by
  refine icall_fn fn40 rfl rfl (by simp) rfl ?_
  simp [g40_macadamref00_Rising, g40_macadamref00_Rising_c]
  refine wpr_seq (wpr_oblock (loop_up pr (fun k e h => e 0 = .sl (iv l) .shut ∧ e 1 = .int .i64 n ∧ e 6 = .int .i64 k ∧ ∃ x, e 5 = .int .i64 x ∧ rising n (-1) l = rising n x (l.drop k)) l.length ?_ ?_ 0 _ _ (by omega) ⟨rfl, rfl, rfl, -1, rfl, rfl⟩))
  · rintro k e h hk ⟨e0, e1, e6, x, e5, hr⟩
    have hw : IntKind.wrap .i64 ((k : Int) + 1) = k + 1 := wrap_id (by omega) (by omega)
    rw [List.drop_eq_getElem_cons hk, rising] at hr
    by_cases h1 : l[k] ≤ x
    · rw [decide_eq_false (by omega), Bool.false_and] at hr
      simp [g40_macadamref00_Rising_l0, e0, e1, e6, e5, hk, hw, h1, onB, onN, results, rdRess, rdRes, hr]
    · by_cases h2 : n ≤ l[k]
      · rw [decide_eq_false (by omega), Bool.false_and] at hr
        simp [g40_macadamref00_Rising_l0, e0, e1, e6, e5, hk, hw, h1, h2, onB, onN, results, rdRess, rdRes, hr]
      · rw [decide_eq_true (by omega), Bool.true_and] at hr
        simp [g40_macadamref00_Rising_l0, e0, e1, e6, e5, hk, hw, h1, h2, hr]
  · rintro e h ⟨e0, e1, e6, x, e5, hr⟩
    simp [rising] at hr
    simp [g40_macadamref00_Rising_l0, e0, e1, e6, onB, onN, results, rdRess, rdRes, hr]

/-- the set of a list -/
def setTo (l : List Int) : Nat → Nat
  | 0 => 0
  | k + 1 => setTo l k ||| 2 ^ (l.getD k 0).toNat
theorem setTo_lt {l : List Int} (h : ∀ x ∈ l, 0 ≤ x ∧ x < 6) (k : Nat) (hk : k ≤ l.length) : setTo l k < 64 := by
  induction k with
  | zero => simp [setTo]
  | succ k ih =>
    refine Nat.or_lt_two_pow (n := 6) (ih (by omega)) ?_
    have hm : l.getD k 0 ∈ l := by rw [List.getD_eq_getElem?_getD, List.getElem?_eq_getElem (by omega)]; exact List.getElem_mem _
    have := h _ hm
    rcases (show (l.getD k 0).toNat = 0 ∨ (l.getD k 0).toNat = 1 ∨ (l.getD k 0).toNat = 2 ∨ (l.getD k 0).toNat = 3 ∨ (l.getD k 0).toNat = 4 ∨ (l.getD k 0).toNat = 5 by omega) with h | h | h | h | h | h <;> simp only [h] <;> decide
theorem c46 (l : List Int) (hl : l.length ≤ 1000) (h : ∀ x ∈ l, 0 ≤ x ∧ x < 6) : icall pr (.fn 46 [] []) [.sl (iv l) .shut] = some (.int .i64 (setTo l l.length : Nat)) := by
  refine icall_fn fn46 rfl rfl (by simp) rfl ?_
  simp [g46_macadamref00_Set, g46_macadamref00_Set_c]
  refine wpr_seq (wpr_oblock (loop_up pr (fun k e h => e 0 = .sl (iv l) .shut ∧ e 4 = .int .i64 k ∧ e 3 = .int .i64 (setTo l k : Nat)) l.length ?_ ?_ 0 _ _ (by omega) ⟨rfl, rfl, rfl⟩))
  · rintro k e h0 hk ⟨e0, e4, e3⟩
    have hw : IntKind.wrap .i64 ((k : Int) + 1) = k + 1 := wrap_id (by omega) (by omega)
    have hlt := setTo_lt h k (by omega)
    have hlt2 := setTo_lt h (k + 1) (by omega)
    have hx := h _ (List.getElem_mem hk)
    have hs : setTo l (k + 1) = setTo l k ||| 2 ^ l[k].toNat := by rw [setTo, List.getD_eq_getElem?_getD, List.getElem?_eq_getElem hk]; rfl
    obtain ⟨c, hc⟩ := Int.eq_ofNat_of_zero_le hx.1
    have h1 := bin_shl c (by omega)
    have h16 : 2 ^ c < 64 := by rcases (show c = 0 ∨ c = 1 ∨ c = 2 ∨ c = 3 ∨ c = 4 ∨ c = 5 by omega) with h | h | h | h | h | h <;> simp [h]
    have h2 := bin_or (setTo l k) (2 ^ c) hlt h16
    rw [hc] at hs
    generalize setTo l k = s at *
    generalize hz : 2 ^ c = z at *
    simp only [Int.toNat_natCast, hz] at hs
    simp [g46_macadamref00_Set_l0, e0, e4, e3, hk, hw, hc, h1, h2, hs]
  · rintro e h0 ⟨e0, e4, e3⟩
    simp [g46_macadamref00_Set_l0, e0, e4, e3, onB, onN, results, rdRess, rdRes]

theorem c47 (l : List Int) (hl : (l.length : Int) ≤ 9223372036854775807) (n : Int) : ∃ w, icall pr (.fn 47 [] []) [.sl (iv l) .shut, .int .i64 n] = some w ∧ ∃ r : Int, w = .int .i64 r ∧ (0 ≤ r ↔ n ∈ l) := by
  refine icall_ex fn47 rfl rfl (by simp) (by rintro w ⟨r, rfl, _⟩; rfl) ?_
  simp [g47_macadamref00_Place, g47_macadamref00_Place_c]
  refine wpr_seq (wpr_oblock (loop_up pr (fun k e h => e 0 = .sl (iv l) .shut ∧ e 1 = .int .i64 n ∧ e 5 = .int .i64 k ∧ ∀ j, j < k → l[j]? ≠ some n) l.length ?_ ?_ 0 _ _ (by omega) ⟨rfl, rfl, rfl, by omega⟩))
  · rintro k e h0 hk ⟨e0, e1, e5, hno⟩
    have hw : IntKind.wrap .i64 ((k : Int) + 1) = k + 1 := wrap_id (by omega) (by omega)
    by_cases hq : l[k] = n
    · have hin : n ∈ l := hq ▸ List.getElem_mem _
      simp [g47_macadamref00_Place_l0, e0, e1, e5, hk, hw, hq, onB, onN, results, rdRess, rdRes, hin]
    · simp [g47_macadamref00_Place_l0, e0, e1, e5, hk, hw, hq]
      intro j hj
      by_cases h1 : j < k
      · simpa using hno j h1
      · have : j = k := by omega
        subst this; rw [List.getElem?_eq_getElem hk]; simpa using hq
  · rintro e h0 ⟨e0, e1, e5, hno⟩
    simp [g47_macadamref00_Place_l0, e0, e1, e5, onB, onN, results, rdRess, rdRes]
    intro hin
    obtain ⟨j, hj, hq⟩ := List.mem_iff_getElem.1 hin
    exact hno j hj (by rw [List.getElem?_eq_getElem hj, hq])
end Av
end

section
/- What loads can have had: all of them, told by a condition. -/
set_option linter.unusedSimpArgs false
set_option linter.unusedVariables false
namespace Av

theorem getD_setI (l : List Int) (k j : Nat) (n : Int) : (l.set k n).getD j 0 = if j = k ∧ k < l.length then n else l.getD j 0 := by
  simp only [List.getD_eq_getElem?_getD, List.getElem?_set]
  by_cases h : k = j
  · subst h
    by_cases h2 : k < l.length
    · simp [h2]
    · simp [h2]
  · rw [if_neg h, if_neg (fun hq => h hq.1.symm)]
theorem getD_ext {l m : List Int} (h : l.length = m.length) (hj : ∀ j, l.getD j 0 = m.getD j 0) : l = m := by
  refine List.ext_getElem h fun i h1 h2 => ?_
  have := hj i
  simp only [List.getD_eq_getElem?_getD, List.getElem?_eq_getElem h1, List.getElem?_eq_getElem h2] at this
  exact this
theorem mem_carts (b : Bk) (bs : Nat → Bool) (h5 : b.ms.length ≤ 5) (l : List Int) : ∀ r l0, r ≤ b.ms.length → lok l0 →
    (l ∈ b.carts bs l0 r ↔ lok l ∧ (∀ j, (j < b.ms.length - r ∨ b.ms.length ≤ j) → l.getD j 0 = l0.getD j 0) ∧ (∀ j, b.ms.length - r ≤ j → j < b.ms.length → b.right bs j (l.getD j 0) = true) ∧ b.fits l = true) := by
  intro r
  induction r with
  | zero =>
    intro l0 hr h0
    simp only [Bk.carts]
    constructor
    · intro hl
      split at hl
      · rename_i hf
        rw [List.mem_singleton.1 hl]
        exact ⟨h0, fun _ _ => rfl, fun j h1 h2 => by omega, hf⟩
      · cases hl
    · rintro ⟨h1, h2, _, h4⟩
      have : l = l0 := getD_ext (h1.1.trans h0.1.symm) fun j => h2 j (by omega)
      subst this
      rw [if_pos h4]; simp
  | succ r ih =>
    intro l0 hr h0
    simp only [Bk.carts, List.mem_flatMap, List.mem_range]
    have hat : b.ms.length - (r + 1) < l0.length := by rw [h0.1]; omega
    constructor
    · rintro ⟨n, hn, hl⟩
      split at hl
      · rename_i hri
        obtain ⟨h1, h2, h3, h4⟩ := (ih _ (by omega) (lok_set h0 _ n hn)).1 hl
        have hatn : l.getD (b.ms.length - (r + 1)) 0 = n := by
          rw [h2 _ (.inl (by omega)), getD_setI, if_pos ⟨rfl, hat⟩]
        refine ⟨h1, fun j hj => ?_, fun j hj1 hj2 => ?_, h4⟩
        · rw [h2 j (by omega), getD_setI, if_neg (by omega)]
        · by_cases hq : j = b.ms.length - (r + 1)
          · subst hq; rw [hatn]; exact hri
          · exact h3 j (by omega) hj2
      · cases hl
    · rintro ⟨h1, h2, h3, h4⟩
      have hg := lok_get h1 (b.ms.length - (r + 1))
      obtain ⟨n, hn⟩ := Int.eq_ofNat_of_zero_le hg.1
      have hri := h3 (b.ms.length - (r + 1)) (by omega) (by omega)
      rw [hn] at hri
      refine ⟨n, by omega, ?_⟩
      rw [if_pos hri]
      refine (ih _ (by omega) (lok_set h0 _ n (by omega))).2 ⟨h1, fun j hj => ?_, fun j hj1 hj2 => h3 j (by omega) hj2, h4⟩
      rw [getD_setI]
      by_cases hq : j = b.ms.length - (r + 1)
      · rw [if_pos ⟨hq, hat⟩, hq, hn]
      · rw [if_neg (fun h => hq h.1), h2 j (by omega)]
/-- what loads can have had -/
structure Tr (b : Bk) (bs : Nat → Bool) (l : List Int) : Prop where
  lok : lok l
  nil : ∀ j, b.ms.length ≤ j → l.getD j 0 = 0
  right : ∀ j, j < b.ms.length → b.right bs j (l.getD j 0) = true
  fits : b.fits l = true
theorem mem_all {b : Bk} (hok : b.ok = true) {bs : Nat → Bool} {l : List Int} : l ∈ b.all bs ↔ Tr b bs l := by
  have h5 := (ok_len hok).2.2
  rw [Bk.all, mem_carts b bs h5 l _ _ (Nat.le_refl _) lok_zeros]
  have hz : ∀ j, zeros.getD j 0 = 0 := by
    intro j
    match j with
    | 0 | 1 | 2 | 3 | 4 => rfl
    | j + 5 => rfl
  constructor
  · rintro ⟨h1, h2, h3, h4⟩
    exact ⟨h1, fun j hj => by rw [h2 j (.inr hj), hz], fun j hj => h3 j (by omega) hj, h4⟩
  · rintro ⟨h1, h2, h3, h4⟩
    exact ⟨h1, fun j hj => by rw [hz]; rcases hj with h | h; · omega
                              · exact h2 j h, fun j _ hj => h3 j hj, h4⟩
theorem can_iff {b : Bk} (hok : b.ok = true) {bs : Nat → Bool} : b.can bs = true ↔ ∃ l, Tr b bs l := by
  simp only [Bk.can, Bool.not_eq_true', List.isEmpty_eq_false_iff_exists_mem]
  exact exists_congr fun l => mem_all hok
theorem right_iff {b : Bk} {bs : Nat → Bool} {j : Nat} {n : Int} {m : Mv} (hm : b.ms[j]? = some m) : b.right bs j n = true ↔ bs j = true ∨ (0 ≤ m.n - n ∧ m.n - n ≤ b.lie m.c) := by
  simp only [Bk.right, hm, Bool.or_eq_true, decide_eq_true_eq]
theorem fits_iff {b : Bk} {l : List Int} : b.fits l = true ↔ ∀ (k : Nat) (x : Hp), b.hs[k]? = some x → b.firstLo l k x ≤ b.firstHi l k x := by
  simp only [Bk.fits, List.all_eq_true, List.mem_range]
  constructor
  · intro h k x hx
    have := h k (List.getElem?_eq_some_iff.1 hx).1
    rw [hx] at this; simpa using this
  · intro h k hk
    rw [List.getElem?_eq_getElem hk]
    simpa using h k _ (List.getElem?_eq_getElem hk)
theorem tell_ok {b : Bk} (hok : b.ok = true) {bs : Nat → Bool} (hc : b.can bs = true) (f : List Int → Int × Int) :
    (∀ l, Tr b bs l → (tell f (b.all bs)).1 ≤ (f l).1 ∧ (f l).2 ≤ (tell f (b.all bs)).2) ∧ (∃ l, Tr b bs l ∧ (tell f (b.all bs)).1 = (f l).1) ∧ (∃ l, Tr b bs l ∧ (tell f (b.all bs)).2 = (f l).2) := by
  obtain ⟨h1, ⟨l, hl, h2⟩, ⟨l', hl', h3⟩⟩ := tell_spec f (b.all bs) (can_ne hc)
  exact ⟨fun l hl => h1 l ((mem_all hok).2 hl), ⟨l, (mem_all hok).1 hl, h2⟩, ⟨l', (mem_all hok).1 hl', h3⟩⟩
end Av
end

section
/- What is answered of a book that is well formed. -/
set_option linter.unusedSimpArgs false
set_option linter.unusedVariables false
namespace Av
open Go (IntKind BinOp UnOp)

theorem law_of {k : Nat} {args : List AV} {F : AFn} (hf : pr.fn k = some F) (hn : args.length = F.nargs)
    (hw : wpr (den pr F.body (init ([] ++ args ++ [])) H.emp) fun o e h' => (o = .normal ∨ o = .ret) ∧ ∃ v, results pr F e h' = some v ∧ v = .bool true) :
    ∃ h', dcall pr (.fn k [] []) args H.emp = some (.bool true, h') := by
  obtain ⟨v, h', h1, rfl⟩ := dcall_of (Q := fun v _ => v = .bool true) hf (by simpa using hn) hw
  exact ⟨h', h1⟩
abbrev Bk.c (b : Bk) : Bool := b.can (inL [])
abbrev Trn (b : Bk) (l : List Int) : Prop := Tr b (inL []) l
theorem askE_ok {b : Bk} (hok : b.ok = true) {is : Bool} (his : is = true) : askE b is = if b.c then 0 else 32 := by
  simp only [askE, hok, his, if_true]
theorem ans_ok {b : Bk} (hok : b.ok = true) {is : Bool} (his : is = true) (s : Int × Int) : ans (askE b is) s = if b.c then (s, 0) else ((0, 0), 32) := by
  rw [askE_ok hok his]; cases b.c <;> rfl
theorem yards_ok {b : Bk} (hok : b.ok = true) {k : Nat} (hk : k < b.ms.length) : b.yards k = if b.c then (tell (yardF k) b.T, 0) else ((0, 0), 32) :=
  ans_ok hok (by simp [isMv, hk]) _
theorem heap_ok {b : Bk} (hok : b.ok = true) {h k : Nat} (hh : h < b.hs.length) (hk : k ≤ b.ms.length) : b.heap h k = if b.c then (tell (heapF b h k) b.T, 0) else ((0, 0), 32) :=
  ans_ok hok (by simp [isHp, hh, hk]) _
theorem laid_ok {b : Bk} (hok : b.ok = true) : b.laid = if b.c then (tell (allF b fun m => decide (m.t = -1)) b.T, 0) else ((0, 0), 32) := ans_ok hok rfl _
theorem owed_ok {b : Bk} (hok : b.ok = true) {c r : Int} (hc : 0 ≤ c ∧ c ≤ 3) (hr : 0 ≤ r ∧ r ≤ 99) : b.owed c r = if b.c then (((tell (allF b fun m => decide (m.c = c)) b.T).1 * r, (tell (allF b fun m => decide (m.c = c)) b.T).2 * r), 0) else ((0, 0), 32) :=
  ans_ok hok (by simp [hc, hr]) _
theorem fits_ok {b : Bk} (hok : b.ok = true) {k : Nat} (hk : k < b.ms.length) {n : Int} (hn : 0 ≤ n ∧ n ≤ 6) : b.fitsQ k n = if b.c then (b.T.any (fun l => decide (l.getD k 0 = n)), 0) else (false, 32) := by
  have h : askE b (isMv b k && decide (0 ≤ n ∧ n ≤ 6)) = if b.c then 0 else 32 := askE_ok hok (by simp [isMv, hk, hn])
  unfold Bk.fitsQ
  rw [h]; cases b.c <;> rfl
theorem liars_ok {b : Bk} (hok : b.ok = true) : b.liars = if b.c then (outs (run (liarSt b) 15 b.T).1 4, 0) else ([], 32) := by
  unfold Bk.liars
  rw [askE_ok hok rfl]; cases b.c <;> rfl
theorem any_iff {b : Bk} (hok : b.ok = true) {P : List Int → Bool} : b.T.any P = true ↔ ∃ l, Trn b l ∧ P l = true := by
  rw [List.any_eq_true]
  exact exists_congr fun l => and_congr_left fun _ => mem_all hok
theorem tell_T {b : Bk} (hok : b.ok = true) (hc : b.c = true) (f : List Int → Int × Int) :
    (∀ l, Trn b l → (tell f b.T).1 ≤ (f l).1 ∧ (f l).2 ≤ (tell f b.T).2) ∧ (∃ l, Trn b l ∧ (tell f b.T).1 = (f l).1) ∧ (∃ l, Trn b l ∧ (tell f b.T).2 = (f l).2) := tell_ok hok hc f
/-- the span of what a load had -/
theorem yard_span {b : Bk} (hok : b.ok = true) (hc : b.c = true) {k : Nat} (hk : k < b.ms.length) :
    0 ≤ (tell (yardF k) b.T).1 ∧ (tell (yardF k) b.T).1 ≤ (tell (yardF k) b.T).2 ∧ (tell (yardF k) b.T).2 ≤ 6 ∧
    (∀ l, Trn b l → (tell (yardF k) b.T).1 ≤ l.getD k 0 ∧ l.getD k 0 ≤ (tell (yardF k) b.T).2) ∧
    (∃ l, Trn b l ∧ l.getD k 0 = (tell (yardF k) b.T).1) ∧ (∃ l, Trn b l ∧ l.getD k 0 = (tell (yardF k) b.T).2) := by
  obtain ⟨h1, ⟨l, hl, h2⟩, ⟨l', hl', h3⟩⟩ := tell_T hok hc (yardF k)
  have g1 := lok_get hl.lok k
  have g2 := lok_get hl'.lok k
  have g3 := h1 l hl
  simp only [yardF] at h2 h3 g3
  refine ⟨by rw [h2]; exact g1.1, by omega, by rw [h3]; exact g2.2, fun l hl => h1 l hl, ⟨l, hl, h2.symm⟩, ⟨l', hl', h3.symm⟩⟩
theorem inL_nil (k : Nat) : inL [] k = false := by simp [inL]
theorem tr_right {b : Bk} {l : List Int} (h : Trn b l) {k : Nat} {m : Mv} (hm : b.ms[k]? = some m) : 0 ≤ m.n - l.getD k 0 ∧ m.n - l.getD k 0 ≤ b.lie m.c := by
  have := (right_iff hm).1 (h.right k (List.getElem?_eq_some_iff.1 hm).1)
  rcases this with h | h
  · rw [inL_nil] at h; cases h
  · exact h
theorem toInt {n : Int} (h : 0 ≤ n) : ∃ k : Nat, n = k := Int.eq_ofNat_of_zero_le h
end Av
end
