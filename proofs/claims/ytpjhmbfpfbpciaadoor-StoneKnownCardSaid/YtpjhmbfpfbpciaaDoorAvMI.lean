/- Contracts of the layer of stone, first part: the conditions stand in each statement. -/
import Derived.Test.YtpjhmbfpfbpciaaDoorAvME
import Derived.Test.YtpjhmbfpfbpciaaDoorAvMG
set_option linter.all false
set_option linter.unusedSectionVars false
set_option linter.unusedVariables false
set_option linter.unusedSimpArgs false
set_option linter.unnecessarySimpa false
section
/- Contracts of the small functions, and of Check. -/
set_option linter.unusedSimpArgs false
set_option linter.unusedVariables false
namespace Av
open Go (IntKind BinOp UnOp)
theorem c59 (a b c : Int) : icall pr (.fn 59 [] []) [.int .i64 a, .int .i64 b, .int .i64 c] = some (.bool (decide (b ≤ a ∧ a ≤ c))) := by
  refine icall_fn fn59 rfl rfl rfl rfl ?_
  by_cases h1 : b ≤ a <;> by_cases h2 : a ≤ c <;> simp [g59_stone_within, g59_stone_within_c, results, rdRess, rdRes, h1, h2]
theorem c60 (a b c : Int) : icall pr (.fn 60 [] []) [.agg [.int .i64 a, .int .i64 b], .int .i64 c] = some (.bool (decide (0 ≤ a ∧ a ≤ b ∧ b ≤ c))) := by
  refine icall_fn fn60 rfl rfl rfl rfl ?_
  by_cases h1 : 0 ≤ a <;> by_cases h2 : a ≤ b <;> by_cases h3 : b ≤ c <;> simp [g60_stone_isSpan, g60_stone_isSpan_c, results, rdRess, rdRes, h1, h2, h3]
theorem c73 (b : Bk) (hb : b.fit) (n : Int) : icall pr (.fn 73 [] []) [b.v, .int .i64 n] = some (.bool (decide (0 ≤ n ∧ n < b.hs.length))) := by
  refine icall_fn fn73 rfl rfl (by simp) rfl ?_
  simp [g73_stone_isHeap, g73_stone_isHeap_c, results, rdRess, rdRes, c59]
  rw [wrap_id (by omega) (by have := hb.1; omega)]
  rw [Bool.eq_iff_iff]; simp; omega
theorem c67 (b : Bk) (hb : b.fit) (n : Int) : icall pr (.fn 67 [] []) [b.v, .int .i64 n] = some (.bool (decide (0 ≤ n ∧ n < b.ms.length))) := by
  refine icall_fn fn67 rfl rfl (by simp) rfl ?_
  simp [g67_stone_isMove, g67_stone_isMove_c, results, rdRess, rdRes, c59]
  rw [wrap_id (by omega) (by have := hb.2; omega)]
  rw [Bool.eq_iff_iff]; simp; omega
theorem c61 (b : Bk) (hb : b.fit) (n : Int) : icall pr (.fn 61 [] []) [b.v, .int .i64 n] = some (.bool (isEnd b.hs.length n)) := by
  refine icall_fn fn61 rfl rfl (by simp) rfl ?_
  by_cases h1 : n = -1 <;> simp [g61_stone_isEnd, g61_stone_isEnd_c, results, rdRess, rdRes, c73 b hb, h1, isEnd]
theorem c62 (n : Int) : icall pr (.fn 62 [] []) [.int .i64 n] = some (.bool (decide (0 ≤ n ∧ n ≤ 3))) := by
  refine icall_fn fn62 rfl rfl rfl rfl ?_
  simp [g62_stone_isCarter, g62_stone_isCarter_c, results, rdRess, rdRes, c59]

theorem l17_0 (b : Bk) (hb : b.fit) (ok0 : Bool) (e h) (e3 : e 3 = .bool ok0) (e1 : e 1 = .lbox 0 [.sl (hvs b.hs) .shut, .sl (mvs b.ms) .shut, .int .i64 b.l0, .int .i64 b.l1, .int .i64 b.l2, .int .i64 b.l3])
    (e21 : e 21 = .sl (hvs b.hs) .shut) (e22 : e 22 = .int .i64 b.hs.length) (e23 : e 23 = .int .i64 0) :
    wpr (den pr (.loop g17_stone_Check_l0) e h) fun o e' h' => o = .exit 0 ∧ h' = h ∧ e' 3 = .bool (ok0 && b.hs.all Hp.ok) ∧ e' 1 = e 1 := by
  refine loop_up pr (fun k e' h' => h' = h ∧ e' 3 = .bool (ok0 && (b.hs.take k).all Hp.ok) ∧ e' 1 = e 1 ∧ e' 21 = e 21 ∧ e' 22 = e 22 ∧ e' 23 = .int .i64 k) b.hs.length ?_ ?_ 0 e h (by omega) ⟨rfl, by simpa using e3, rfl, rfl, rfl, e23⟩
  · rintro k e' h' hk ⟨rfl, q3, q1, q21, q22, q23⟩
    rw [e1] at q1; rw [e21] at q21; rw [e22] at q22
    have htk := all_take b.hs Hp.ok k hk
    generalize hx : b.hs[k] = x at htk
    have hw : IntKind.wrap .i64 ((k : Int) + 1) = k + 1 := wrap_id (by omega) (by have := hb.1; omega)
    cases hok : (ok0 && (b.hs.take k).all Hp.ok) with
    | false =>
      rw [hok] at q3
      simp [g17_stone_Check_l0, q3, q1, q21, q22, q23, hk, hx, hw, htk, e1, e21, e22, hok, ← Bool.and_assoc]
    | true =>
      rw [hok] at q3
      by_cases h1 : 0 ≤ x.a ∧ x.a ≤ x.b ∧ x.b ≤ 60
      · have hw2 : IntKind.wrap .i64 (x.b - x.a) = x.b - x.a := wrap_id (by omega) (by omega)
        by_cases h2 : x.b - x.a ≤ 4
        · simp [g17_stone_Check_l0, q3, q1, q21, q22, q23, hk, hx, hw, htk, e1, e21, e22, hok, ← Bool.and_assoc, c60, h1, hw2, h2, Hp.ok]
        · simp [g17_stone_Check_l0, q3, q1, q21, q22, q23, hk, hx, hw, htk, e1, e21, e22, hok, ← Bool.and_assoc, c60, h1, hw2, h2, Hp.ok]
      · have h1' : x.ok = false := by simp [Hp.ok]; omega
        simp [g17_stone_Check_l0, q3, q1, q21, q22, q23, hk, hx, hw, htk, e1, e21, e22, hok, ← Bool.and_assoc, c60, h1, h1']
  · rintro e' h' ⟨rfl, q3, q1, q21, q22, q23⟩
    rw [e22] at q22
    simp [g17_stone_Check_l0, q22, q23, q3, q1]
abbrev Bk.bx (b : Bk) : AV := .lbox 0 [.sl (hvs b.hs) .shut, .sl (mvs b.ms) .shut, .int .i64 b.l0, .int .i64 b.l1, .int .i64 b.l2, .int .i64 b.l3]
theorem l17_1 (b : Bk) (hb : b.fit) (ok0 : Bool) (e h) (e3 : e 3 = .bool ok0) (e1 : e 1 = b.bx)
    (e50 : e 50 = .sl (mvs b.ms) .shut) (e51 : e 51 = .int .i64 b.ms.length) (e52 : e 52 = .int .i64 0) :
    wpr (den pr (.loop g17_stone_Check_l1) e h) fun o e' h' => o = .exit 2 ∧ h' = h ∧ e' 3 = .bool (ok0 && b.ms.all (Mv.ok b.hs.length)) ∧ e' 1 = e 1 := by
  refine loop_up pr (fun k e' h' => h' = h ∧ e' 3 = .bool (ok0 && (b.ms.take k).all (Mv.ok b.hs.length)) ∧ e' 1 = e 1 ∧ e' 50 = e 50 ∧ e' 51 = e 51 ∧ e' 52 = .int .i64 k) b.ms.length ?_ ?_ 0 e h (by omega) ⟨rfl, by simpa using e3, rfl, rfl, rfl, e52⟩
  · rintro k e' h' hk ⟨rfl, q3, q1, q50, q51, q52⟩
    rw [e1] at q1; rw [e50] at q50; rw [e51] at q51
    have htk := all_take b.ms (Mv.ok b.hs.length) k hk
    generalize hx : b.ms[k] = x at htk
    have hw : IntKind.wrap .i64 ((k : Int) + 1) = k + 1 := wrap_id (by omega) (by have := hb.2; omega)
    cases hok : (ok0 && (b.ms.take k).all (Mv.ok b.hs.length)) with
    | false =>
      rw [hok] at q3
      simp [g17_stone_Check_l1, q3, q1, q50, q51, q52, hk, hx, hw, htk, e1, e50, e51, hok, ← Bool.and_assoc]
    | true =>
      rw [hok] at q3
      cases h1 : isEnd b.hs.length x.f with
      | false => simp [g17_stone_Check_l1, q3, q1, q50, q51, q52, hk, hx, hw, htk, e1, e50, e51, hok, ← Bool.and_assoc, c61 b hb, c62, c59, h1, Mv.ok]
      | true =>
      cases h2 : isEnd b.hs.length x.t with
      | false => simp [g17_stone_Check_l1, q3, q1, q50, q51, q52, hk, hx, hw, htk, e1, e50, e51, hok, ← Bool.and_assoc, c61 b hb, c62, c59, h1, h2, Mv.ok]
      | true =>
      by_cases h3 : x.f = x.t
      · simp [g17_stone_Check_l1, q3, q1, q50, q51, q52, hk, hx, hw, htk, e1, e50, e51, hok, ← Bool.and_assoc, c61 b hb, c62, c59, h1, h2, h3, Mv.ok]
      by_cases h4 : 0 ≤ x.c ∧ x.c ≤ 3
      · simp [g17_stone_Check_l1, q3, q1, q50, q51, q52, hk, hx, hw, htk, e1, e50, e51, hok, ← Bool.and_assoc, c61 b hb, c62, c59, h1, h2, h3, h4, Mv.ok]
      · have h4' : (decide (0 ≤ x.c) && decide (x.c ≤ 3)) = false := by rw [← Bool.not_eq_true]; simpa using h4
        simp [g17_stone_Check_l1, q3, q1, q50, q51, q52, hk, hx, hw, htk, e1, e50, e51, hok, ← Bool.and_assoc, c61 b hb, c62, c59, h1, h2, h3, h4', Mv.ok]
  · rintro e' h' ⟨rfl, q3, q1, q50, q51, q52⟩
    rw [e51] at q51
    simp [g17_stone_Check_l1, q51, q52, q3, q1]
theorem l17_2 (b : Bk) (ok0 : Bool) (e h) (e3 : e 3 = .bool ok0) 
    (e88 : e 88 = .agg [.int .i64 b.l0, .int .i64 b.l1, .int .i64 b.l2, .int .i64 b.l3]) (e89 : e 89 = .int .i64 0) :
    wpr (den pr (.loop g17_stone_Check_l2) e h) fun o e' h' => o = .exit 4 ∧ h' = h ∧ e' 3 = .bool (ok0 && ([b.l0, b.l1, b.l2, b.l3]).all lieOk) := by
  refine loop_up pr (fun k e' h' => h' = h ∧ e' 3 = .bool (ok0 && (([b.l0, b.l1, b.l2, b.l3]).take k).all lieOk) ∧ e' 88 = e 88 ∧ e' 89 = .int .i64 k) 4 ?_ ?_ 0 e h (by omega) ⟨rfl, by simpa using e3, rfl, e89⟩
  · rintro k e' h' hk ⟨rfl, q3, q88, q89⟩
    rw [e88] at q88
    have hlt : (k : Int) < 4 := by omega
    obtain ⟨z, hz⟩ : ∃ z, [b.l0, b.l1, b.l2, b.l3][k]? = some z := ⟨_, List.getElem?_eq_getElem (by simpa using hk)⟩
    have htk : (([b.l0, b.l1, b.l2, b.l3]).take (k + 1)).all lieOk = ((([b.l0, b.l1, b.l2, b.l3]).take k).all lieOk && lieOk z) := by
      rw [List.take_add_one, hz, List.all_append]; simp
    have hp : part [.int .i64 b.l0, .int .i64 b.l1, .int .i64 b.l2, .int .i64 b.l3] k 1 false = some (.int .i64 z) := by
      match k, hk with
      | 0, _ => simpa [part] using hz
      | 1, _ => simpa [part] using hz
      | 2, _ => simpa [part] using hz
      | 3, _ => simpa [part] using hz
    have hw : IntKind.wrap .i64 ((k : Int) + 1) = k + 1 := wrap_id (by omega) (by omega)
    cases hok : (ok0 && (([b.l0, b.l1, b.l2, b.l3]).take k).all lieOk) with
    | false =>
      rw [hok] at q3
      simp only [htk, ← Bool.and_assoc, hok]
      simp [g17_stone_Check_l2, q3, q88, q89, hlt, hp, hw, e88]
    | true =>
      rw [hok] at q3
      simp only [htk, ← Bool.and_assoc, hok]
      simp [g17_stone_Check_l2, q3, q88, q89, hlt, hp, hw, e88, c59, lieOk]
  · rintro e' h' ⟨rfl, q3, q88, q89⟩
    simp [g17_stone_Check_l2, q89, q3]
theorem c17 (b : Bk) (hb : b.fit) : icall pr (.fn 17 [] []) [b.v] = some (.int .i64 (if b.ok then 0 else 30)) := by
  refine icall_fn fn17 rfl rfl (by simp) (by simp) ?_
  by_cases h0 : (1 : Int) ≤ b.hs.length ∧ (b.hs.length : Int) ≤ 4
  all_goals
    simp [g17_stone_Check, g17_stone_Check_c, c59, h0]
    refine wpr_seq (wpr_oblock (wpr_mono (l17_0 b hb _ _ _ rfl rfl rfl rfl rfl) ?_))
    rintro _ e _ ⟨rfl, rfl, q3, q1⟩
    simp [onB, onN, q1]
    refine wpr_seq (wpr_oblock (wpr_mono (l17_1 b hb _ _ _ q3 (by simp [q1]) rfl rfl rfl) ?_))
    clear q3
    rintro _ e2 _ ⟨rfl, rfl, q3, q2⟩
    simp [q1] at q2
    simp [onB, onN, q2]
    refine wpr_seq (wpr_oblock (wpr_mono (l17_2 b _ _ _ q3 rfl rfl) ?_))
    clear q3
    rintro _ e3 _ ⟨rfl, rfl, q3⟩
    generalize hX : (_ && [b.l0, b.l1, b.l2, b.l3].all lieOk) = X at q3
  · have : b.ok = X := by
      have h0' : 1 ≤ b.hs.length ∧ b.hs.length ≤ 4 := by omega
      have h1' : ((b.ms.length : Int) ≤ 5) = (b.ms.length ≤ 5) := by apply propext; omega
      rw [← hX]; simp [Bk.ok, Bool.and_assoc, h0', h1']
    cases X <;> simp [onB, onN, q3, results, rdRess, rdRes, this]
  · have : b.ok = X := by
      rw [← hX]; simp [Bk.ok, Bool.and_assoc]; omega
    cases X <;> simp [onB, onN, q3, results, rdRess, rdRes, this]
end Av
end

section
/- What the layer of stone reckons, as plain functions on plain data. -/
set_option linter.unusedSimpArgs false
set_option linter.unusedVariables false
namespace Av

/-- what a load adds to a heap that it comes from, and goes to -/
def Mv.off (m : Mv) (h n : Int) : Int := if m.f = h then -n else 0
def Mv.onto (m : Mv) (h n : Int) : Int := if m.t = h then n else 0
/-- by how much a heap has more behind so many loads -/
def more (ms : List Mv) (l : List Int) (h : Int) : Nat → Int
  | 0 => 0
  | k + 1 => more ms l h k + (match ms[k]? with | some m => m.off h (l.getD k 0) + m.onto h (l.getD k 0) | none => 0)
/-- the least that a heap can have had at first, looked at behind so many loads -/
def lowTo (ms : List Mv) (l : List Int) (h lo : Int) : Nat → Int
  | 0 => lo
  | k + 1 => max (lowTo ms l h lo k) (- more ms l h k)
def Bk.firstLo (b : Bk) (l : List Int) (h : Int) (x : Hp) : Int := lowTo b.ms l h (max x.a (x.c - more b.ms l h b.ms.length)) (b.ms.length + 1)
def Bk.firstHi (b : Bk) (l : List Int) (h : Int) (x : Hp) : Int := min x.b (x.d - more b.ms l h b.ms.length)
/-- can all heaps from the k-th on be so? -/
def Bk.fits (b : Bk) (l : List Int) : Bool := (List.range b.hs.length).all fun k => match b.hs[k]? with | some x => decide (b.firstLo l k x ≤ b.firstHi l k x) | none => true
def Bk.lie (b : Bk) (c : Int) : Int := if c = 0 then b.l0 else if c = 1 then b.l1 else if c = 2 then b.l2 else b.l3
def Bk.right (b : Bk) (bs : Nat → Bool) (k : Nat) (n : Int) : Bool := match b.ms[k]? with
  | some m => bs k || decide (0 ≤ m.n - n ∧ m.n - n ≤ b.lie m.c)
  | none => false
/-- all that loads can have had, from the k-th on (so many are left) -/
def Bk.carts (b : Bk) (bs : Nat → Bool) (l : List Int) : Nat → List (List Int)
  | 0 => if b.fits l then [l] else []
  | r + 1 => (List.range 7).flatMap fun (n : Nat) => if b.right bs (b.ms.length - (r + 1)) (n : Int) then b.carts bs (l.set (b.ms.length - (r + 1)) (n : Int)) r else []
def zeros : List Int := [0, 0, 0, 0, 0]
def Bk.all (b : Bk) (bs : Nat → Bool) : List (List Int) := b.carts bs zeros b.ms.length

/-- loads as they can be -/
def lok (l : List Int) : Prop := l.length = 5 ∧ ∀ n ∈ l, 0 ≤ n ∧ n ≤ 6
theorem lok_zeros : lok zeros := ⟨rfl, by simp [zeros]⟩
theorem lok_set {l : List Int} (h : lok l) (k : Nat) (n : Nat) (hn : n < 7) : lok (l.set k n) := by
  refine ⟨by rw [List.length_set]; exact h.1, fun x hx => ?_⟩
  rcases List.mem_or_eq_of_mem_set hx with h1 | h1
  · exact h.2 x h1
  · omega
theorem lok_get {l : List Int} (h : lok l) (k : Nat) : 0 ≤ l.getD k 0 ∧ l.getD k 0 ≤ 6 := by
  rw [List.getD_eq_getElem?_getD]
  cases hk : l[k]? with
  | none => simp
  | some x => exact h.2 x (List.mem_of_getElem? hk)
theorem more_bd (ms : List Mv) {l : List Int} (h : lok l) (x : Int) (k : Nat) : -6 * (k : Int) ≤ more ms l x k ∧ more ms l x k ≤ 6 * (k : Int) := by
  induction k with
  | zero => simp [more]
  | succ k ih =>
    have := lok_get h k
    simp only [more]
    cases ms[k]? with
    | none => constructor <;> simp <;> omega
    | some m =>
      simp only [Mv.off, Mv.onto]
      split <;> split <;> constructor <;> push_cast <;> omega
theorem more_zeros (ms : List Mv) (x : Int) (k : Nat) : more ms zeros x k = 0 := by
  induction k with
  | zero => rfl
  | succ k ih =>
    have : zeros.getD k 0 = 0 := by
      match k with
      | 0 | 1 | 2 | 3 | 4 => rfl
      | k + 5 => rfl
    simp only [more, ih, this]
    cases ms[k]? with
    | none => rfl
    | some m => simp [Mv.off, Mv.onto]

theorem ok_len {b : Bk} (h : b.ok = true) : 1 ≤ b.hs.length ∧ b.hs.length ≤ 4 ∧ b.ms.length ≤ 5 := by
  simp only [Bk.ok, Bool.and_eq_true, decide_eq_true_eq] at h; exact h.1.1.1
theorem ok_fit {b : Bk} (h : b.ok = true) : b.fit := by
  have := ok_len h; constructor <;> omega
theorem ok_hp {b : Bk} (h : b.ok = true) {k : Nat} {x : Hp} (hx : b.hs[k]? = some x) : 0 ≤ x.a ∧ x.a ≤ x.b ∧ x.b ≤ 60 ∧ x.b - x.a ≤ 4 ∧ 0 ≤ x.c ∧ x.c ≤ x.d ∧ x.d ≤ 99 := by
  simp only [Bk.ok, Bool.and_eq_true, decide_eq_true_eq, List.all_eq_true] at h
  have := h.1.1.2 x (List.mem_of_getElem? hx)
  simp only [Hp.ok, decide_eq_true_eq] at this; omega
theorem ok_mv {b : Bk} (h : b.ok = true) {k : Nat} {m : Mv} (hx : b.ms[k]? = some m) : (m.f = -1 ∨ 0 ≤ m.f ∧ m.f < b.hs.length) ∧ (m.t = -1 ∨ 0 ≤ m.t ∧ m.t < b.hs.length) ∧ m.f ≠ m.t ∧ 0 ≤ m.c ∧ m.c ≤ 3 ∧ 0 ≤ m.n ∧ m.n ≤ 6 := by
  simp only [Bk.ok, Bool.and_eq_true, decide_eq_true_eq, List.all_eq_true] at h
  have := h.1.2 m (List.mem_of_getElem? hx)
  simp only [Mv.ok, isEnd, Bool.and_eq_true, decide_eq_true_eq] at this
  exact ⟨this.1.1, this.1.2, this.2.1, by omega, by omega, by omega, by omega⟩
theorem ok_lies {b : Bk} (h : b.ok = true) : (0 ≤ b.l0 ∧ b.l0 ≤ 2) ∧ (0 ≤ b.l1 ∧ b.l1 ≤ 2) ∧ (0 ≤ b.l2 ∧ b.l2 ≤ 2) ∧ (0 ≤ b.l3 ∧ b.l3 ≤ 2) := by
  simp only [Bk.ok, Bool.and_eq_true, decide_eq_true_eq, lieOk] at h
  exact ⟨h.2.1.1.1, h.2.1.1.2, h.2.1.2, h.2.2⟩
theorem lowTo_bd (ms : List Mv) {l : List Int} (h : lok l) (x lo : Int) (k : Nat) : lo ≤ lowTo ms l x lo k ∧ lowTo ms l x lo k ≤ max lo (6 * (k : Int)) := by
  induction k with
  | zero => simp [lowTo]; omega
  | succ k ih =>
    have := more_bd ms h x k
    simp only [lowTo]; push_cast; omega
end Av
end

section
/- Contracts: what a heap has more, and the sets of tallies that are left out. -/
set_option linter.unusedSimpArgs false
set_option linter.unusedVariables false
namespace Av
open Go (IntKind BinOp UnOp)

theorem c94 : icall pr (.fn 94 [] []) [] = some (.agg (iv zeros)) := by
  refine icall_fn fn94 rfl rfl rfl rfl ?_
  simp [g94_stone_nothing, g94_stone_nothing_c, results, rdRess, rdRes, iv, zeros]
theorem c118 (m : Mv) (h n : Int) (hn : 0 ≤ n ∧ n ≤ 6) : icall pr (.fn 118 [] []) [m.v, .int .i64 h, .int .i64 n] = some (.int .i64 (m.off h n)) := by
  refine icall_fn fn118 rfl rfl rfl rfl ?_
  have hw : IntKind.wrap .i64 (-n) = -n := wrap_id (by omega) (by omega)
  by_cases h1 : m.f = h <;> simp [g118_stone_move_coming, g118_stone_move_coming_c, results, rdRess, rdRes, h1, Mv.off, hw]
theorem c120 (m : Mv) (h n : Int) : icall pr (.fn 120 [] []) [m.v, .int .i64 h, .int .i64 n] = some (.int .i64 (m.onto h n)) := by
  refine icall_fn fn120 rfl rfl rfl rfl ?_
  by_cases h1 : m.t = h <;> simp [g120_stone_move_going, g120_stone_move_going_c, results, rdRess, rdRes, h1, Mv.onto]

/-- numbers together -/
def sumTo (l : List Int) : Nat → Int
  | 0 => 0
  | k + 1 => sumTo l k + l.getD k 0
theorem sumTo_sum (l : List Int) : sumTo l l.length = l.sum := by
  have : ∀ k, k ≤ l.length → sumTo l k = (l.take k).sum := by
    intro k
    induction k with
    | zero => intro _; simp [sumTo]
    | succ k ih =>
      intro hk
      have h1 : l.take (k + 1) = l.take k ++ [l[k]] := by rw [List.take_add_one, List.getElem?_eq_getElem (by omega)]; rfl
      rw [sumTo, ih (by omega), h1, List.sum_append, List.getD_eq_getElem?_getD, List.getElem?_eq_getElem (by omega)]
      simp
  rw [this _ (Nat.le_refl _)]; simp
theorem sumTo_bd {l : List Int} (h : ∀ x ∈ l, -6 ≤ x ∧ x ≤ 6) (k : Nat) : -6 * (k : Int) ≤ sumTo l k ∧ sumTo l k ≤ 6 * (k : Int) := by
  induction k with
  | zero => simp [sumTo]
  | succ k ih =>
    simp only [sumTo]
    have : -6 ≤ l.getD k 0 ∧ l.getD k 0 ≤ 6 := by
      rw [List.getD_eq_getElem?_getD]
      cases hk : l[k]? with
      | none => simp
      | some x => exact h x (List.mem_of_getElem? hk)
    constructor <;> push_cast <;> omega
theorem c95 (l : List Int) (hl : l.length ≤ 1000) (h : ∀ x ∈ l, -6 ≤ x ∧ x ≤ 6) : icall pr (.fn 95 [] []) [.sl (iv l) .shut] = some (.int .i64 l.sum) := by
  refine icall_fn fn95 rfl rfl (by simp) rfl ?_
  simp [g95_stone_sum, g95_stone_sum_c]
  refine wpr_seq (wpr_oblock (loop_up pr (fun k e h => e 6 = .sl (iv l) .shut ∧ e 7 = .int .i64 l.length ∧ e 8 = .int .i64 k ∧ e 3 = .int .i64 (sumTo l k)) l.length ?_ ?_ 0 _ _ (by omega) ⟨rfl, rfl, rfl, rfl⟩))
  · rintro k e h0 hk ⟨e6, e7, e8, e3⟩
    have hw : IntKind.wrap .i64 ((k : Int) + 1) = k + 1 := wrap_id (by omega) (by omega)
    have hb := sumTo_bd h k
    have hb2 := sumTo_bd h (k + 1)
    have hs : sumTo l (k + 1) = sumTo l k + l[k] := by rw [sumTo, List.getD_eq_getElem?_getD, List.getElem?_eq_getElem hk]; rfl
    have hw2 : IntKind.wrap .i64 (sumTo l k + l[k]) = sumTo l k + l[k] := by rw [← hs]; exact wrap_id (by push_cast at hb2; omega) (by push_cast at hb2; omega)
    simp [g95_stone_sum_l0, e6, e7, e8, e3, hk, hw, hw2, hs]
  · rintro e h0 ⟨e6, e7, e8, e3⟩
    simp [g95_stone_sum_l0, e6, e7, e8, e3, onB, onN, results, rdRess, rdRes, sumTo_sum]
end Av
end

section
/- Contracts: what a heap has more, which tallies are left out, what is right. -/
set_option linter.unusedSimpArgs false
set_option linter.unusedVariables false
namespace Av
open Go (IntKind BinOp UnOp)

/-- tallies of a list are left out -/
abbrev butV (L : List Int) : AV := .fn 90 [] [.cptr [.sl (iv L) .shut]]
abbrev bk8c (b : Bk) (L : List Int) (ks vs : List AV) : List AV := [.sl (hvs b.hs) .shut, .sl (mvs b.ms) .shut, .int .i64 b.l0, .int .i64 b.l1, .int .i64 b.l2, .int .i64 b.l3, butV L, .mv ks vs]
abbrev bk8 (b : Bk) (L : List Int) (ks vs : List AV) : AV := .agg (bk8c b L ks vs)
/-- which loads change which heaps -/
def Chg (ms : List Mv) (ks vs : List AV) : Prop := cleans ks = true ∧ cleans vs = true ∧
  ∀ (h : Int) (k : Nat) (m : Mv), ms[k]? = some m → 0 ≤ h → findv 2 (.agg [.int .i64 h, .int .i64 ((k : Int) + 1)]) ks vs = some (if m.f = h ∨ m.t = h then some (.bool true) else none)

@[simp] theorem glob0 : pr.glob 0 = [.int .i64 (-1), .int .i64 (-1)] := rfl
@[simp] theorem glob1 : pr.glob 1 = [.fn 118 [] [], .fn 120 [] []] := rfl

/-- where a number stands first -/
def posOf (L : List Int) (n : Int) : Int := if n ∈ L then 0 else -1
theorem c102 (L : List Int) (hL : (L.length : Int) ≤ 9223372036854775807) (n : Int) : ∃ w, icall pr (.fn 102 [] []) [.sl (iv L) .shut, .int .i64 n] = some w ∧ ∃ r : Int, w = .int .i64 r ∧ (0 ≤ r ↔ n ∈ L) := by
  refine icall_ex fn102 rfl rfl (by simp) (by rintro w ⟨r, rfl, _⟩; rfl) ?_
  simp [g102_slices_Index, g102_slices_Index_c]
  refine wpr_seq (wpr_oblock (loop_up pr (fun k e h => e 0 = .sl (iv L) .shut ∧ e 1 = .int .i64 n ∧ e 7 = .int .i64 L.length ∧ e 8 = .int .i64 k ∧ ∀ j, j < k → L[j]? ≠ some n) L.length ?_ ?_ 0 _ _ (by omega) ⟨rfl, rfl, rfl, rfl, by omega⟩))
  · rintro k e h0 hk ⟨e0, e1, e7, e8, hno⟩
    have hw : IntKind.wrap .i64 ((k : Int) + 1) = k + 1 := wrap_id (by omega) (by omega)
    by_cases hq : n = L[k]
    · have hin : L[k] ∈ L := List.getElem_mem _
      simp [g102_slices_Index_l0, e0, e1, e7, e8, hk, hw, ← hq, onB, onN, results, rdRess, rdRes]
      rw [hq]; exact hin
    · simp [g102_slices_Index_l0, e0, e1, e7, e8, hk, hw, hq]
      intro j hj
      by_cases h1 : j < k
      · simpa using hno j h1
      · have : j = k := by omega
        subst this; rw [List.getElem?_eq_getElem hk]; simpa using fun h => hq h.symm
  · rintro e h0 ⟨e0, e1, e7, e8, hno⟩
    simp [g102_slices_Index_l0, e0, e1, e7, e8, onB, onN, results, rdRess, rdRes]
    intro hin
    obtain ⟨j, hj, hq⟩ := List.mem_iff_getElem.1 hin
    exact hno j hj (by rw [List.getElem?_eq_getElem hj, hq])
theorem c91 (L : List Int) (hL : (L.length : Int) ≤ 9223372036854775807) (n : Int) : icall pr (.fn 91 [] []) [.sl (iv L) .shut, .int .i64 n] = some (.bool (decide (n ∈ L))) := by
  refine icall_fn fn91 rfl rfl (by simp) rfl ?_
  obtain ⟨w, h1, r, rfl, h2⟩ := c102 L hL n
  simp [g91_slices_Contains, g91_slices_Contains_c, results, rdRess, rdRes, h1, h2]
theorem c90 (L : List Int) (hL : (L.length : Int) ≤ 9223372036854775807) (n : Int) : icall pr (butV L) [.int .i64 n] = some (.bool (decide (n ∈ L))) := by
  refine icall_fn fn90 rfl (by simp) rfl rfl ?_
  simp [g90_stone_some_1, g90_stone_some_1_c, results, rdRess, rdRes, c91 L hL]
theorem c56 (L : List Int) : icall pr (.fn 56 [] []) [.sl (iv L) .shut] = some (.agg [butV L]) := by
  refine icall_fn fn56 rfl rfl (by simp) (by simp) ?_
  simp [g56_stone_some, g56_stone_some_c, results, rdRess, rdRes]
end Av
end

section
/- Contracts: by how much a heap has more; what is right. -/
set_option linter.unusedSimpArgs false
set_option linter.unusedVariables false
namespace Av
open Go (IntKind BinOp UnOp)

theorem off_bd (m : Mv) (h n : Int) (hn : 0 ≤ n ∧ n ≤ 6) : -6 ≤ m.off h n ∧ m.off h n ≤ 6 := by
  simp only [Mv.off]; split <;> omega
theorem onto_bd (m : Mv) (h n : Int) (hn : 0 ≤ n ∧ n ≤ 6) : -6 ≤ m.onto h n ∧ m.onto h n ≤ 6 := by
  simp only [Mv.onto]; split <;> omega

theorem l75_0 (b : Bk) (L ks vs) (l : List Int) (hl : lok l) (hp : Int) (k : Nat) (hk5 : k < 5) (m : Mv) (hm : b.ms[k]? = some m) (xs : List Int) (hx : xs.length ≤ 100) (kk : SK) (e h)
    (e4 : e 4 = .lbox 0 (bk8c b L ks vs)) (e5 : e 5 = .lbox 0 (iv l)) (e2 : e 2 = .int .i64 hp) (e10 : e 10 = .int .i64 k) (e35 : e 35 = .agg [.fn 118 [] [], .fn 120 [] []]) (e36 : e 36 = .int .i64 0)
    (e9 : e 9 = .sl (iv xs) kk) (ho : Opn h kk) :
    wpr (den pr (.loop g75_stone_book_more_l0) e h) fun o e' h' => o = .exit 2 ∧ e' 4 = e 4 ∧ e' 5 = e 5 ∧ e' 2 = e 2 ∧ e' 10 = e 10 ∧ e' 17 = e 17 ∧ e' 18 = e 18 ∧
      ∃ kk', e' 9 = .sl (iv (xs ++ [m.off hp (l.getD k 0), m.onto hp (l.getD k 0)])) kk' ∧ Opn h' kk' := by
  refine loop_up pr (fun j e' h' => e' 4 = e 4 ∧ e' 5 = e 5 ∧ e' 2 = e 2 ∧ e' 10 = e 10 ∧ e' 17 = e 17 ∧ e' 18 = e 18 ∧ e' 35 = e 35 ∧ e' 36 = .int .i64 j ∧ ∃ kk', e' 9 = .sl (iv (xs ++ ([m.off hp (l.getD k 0), m.onto hp (l.getD k 0)]).take j)) kk' ∧ Opn h' kk') 2 ?_ ?_ 0 e h (by omega) ⟨rfl, rfl, rfl, rfl, rfl, rfl, rfl, e36, kk, by simpa using e9, ho⟩
  · rintro j e' h' hj ⟨q4, q5, q2, q10, q17, q18, q35, q36, kk', q9, hop⟩
    rw [e4] at q4; rw [e5] at q5; rw [e2] at q2; rw [e10] at q10; rw [e35] at q35
    have hn := lok_get hl k
    have hp1 := part_iv1 (l := l) (k := k) (by rw [hl.1]; omega)
    have hk5' : (k : Int) < 5 := by omega
    rcases (show j = 0 ∨ j = 1 by omega) with rfl | rfl
    · obtain ⟨k2, h2, ha, hb, _, _⟩ := app_ok (bytes := 8) (new := [.int .i64 (m.off hp (l.getD k 0))]) (k2 := .exact) (sz := 1) (es := iv xs) hop (by simp) (iv_cell1 _) (by simp) (by simp; omega)
      simp only [List.take_zero, List.append_nil] at q9
      have c1 := c118 m hp (l.getD k 0) hn
      generalize l.getD k 0 = n at *
      simp [g75_stone_book_more_l0, q4, q5, q2, q10, q17, q18, q35, q36, q9, hm, hp1, hk5', c1, ha, e4, e5, e2, e10, e35, hb]
    · obtain ⟨k2, h2, ha, hb, _, _⟩ := app_ok (bytes := 8) (new := [.int .i64 (m.onto hp (l.getD k 0))]) (k2 := .exact) (sz := 1) (es := iv (xs ++ [m.off hp (l.getD k 0)])) hop (by simp) (iv_cell1 _) (by simp) (by simp; omega)
      simp only [List.take_succ_cons, List.take_zero] at q9
      have c1 := c120 m hp (l.getD k 0)
      generalize l.getD k 0 = n at *
      simp at ha q9
      simp [g75_stone_book_more_l0, q4, q5, q2, q10, q17, q18, q35, q36, q9, hm, hp1, hk5', c1, ha, e4, e5, e2, e10, e35, hb]
  · rintro e' h' ⟨q4, q5, q2, q10, q17, q18, q35, q36, kk', q9, hop⟩
    simp [g75_stone_book_more_l0, q36, q4, q5, q2, q10, q17, q18]
    exact ⟨kk', by simpa using q9, hop⟩

theorem c75 (b : Bk) (hok : b.ms.length ≤ 5) (L ks vs) (hc : Chg b.ms ks vs) (l : List Int) (hl : lok l) (hp : Int) (h0 : 0 ≤ hp) (k : Nat) (hk : k ≤ b.ms.length) :
    icall pr (.fn 75 [] []) [bk8 b L ks vs, .agg (iv l), .int .i64 hp, .int .i64 k] = some (.int .i64 (more b.ms l hp k)) := by
  refine icall_fn fn75 rfl rfl (by simp [hc.1, hc.2.1]) rfl ?_
  have hpa := part_ivall hl.1
  have heq := eqk_iv l zeros hl.1 rfl
  by_cases hz : l = zeros
  · subst hz
    simp [g75_stone_book_more, g75_stone_book_more_c, hpa, c94, heq, results, rdRess, rdRes, more_zeros]
  · simp [g75_stone_book_more, g75_stone_book_more_c, hpa, c94, heq, hz]
    refine wpr_seq (wpr_oblock (loop_up pr (fun j e h => e 4 = .lbox 0 (bk8c b L ks vs) ∧ e 5 = .lbox 0 (iv l) ∧ e 2 = .int .i64 hp ∧ e 17 = .int .i64 k ∧ e 18 = .int .i64 j ∧
      ∃ xs kk, e 9 = .sl (iv xs) kk ∧ Opn h kk ∧ xs.length ≤ 2 * j ∧ xs.sum = more b.ms l hp j ∧ ∀ x ∈ xs, -6 ≤ x ∧ x ≤ 6) k ?_ ?_ 0 _ _ (by omega) ⟨rfl, rfl, rfl, rfl, rfl, [], .exact, rfl, trivial, by simp, by simp [more], by simp⟩))
    · rintro j e h hj ⟨e4, e5, e2, e17, e18, xs, kk, e9, ho, hlen, hsum, hbd⟩
      have hjl : j < b.ms.length := by omega
      have hw : IntKind.wrap .i64 ((j : Int) + 1) = j + 1 := wrap_id (by omega) (by omega)
      have hm : b.ms[j]? = some b.ms[j] := List.getElem?_eq_getElem hjl
      have hjk : (j : Int) < k := by omega
      have hcm := hc.2.2 hp j _ hm h0
      have hn := lok_get hl j
      have hsp : eqk (some 2) (.agg [.int .i64 hp, .int .i64 ((j : Int) + 1)]) (.agg [.int .i64 (-1), .int .i64 (-1)]) = some false := by
        have : ((j : Int) + 1 == -1) = false := by simp; omega
        simp [eqk, aeqs, aeq1, this]
      generalize hmm : b.ms[j] = m at *
      by_cases hq : m.f = hp ∨ m.t = hp
      · rw [if_pos hq] at hcm
        simp [g75_stone_book_more_l1, e4, e5, e2, e17, e18, e9, hj, hw, hsp, hcm]
        refine wpr_seq (wpr_oblock (wpr_oblock (wpr_mono (l75_0 b L ks vs l hl hp j (by omega) m hm xs (by omega) kk _ _ (by simp [e4]) (by simp [e5]) (by simp [e2]) rfl rfl rfl (by simp [e9]) ho) ?_)))
        rintro o e' h' ⟨rfl, q4, q5, q2, q10, q17, q18, kk', q9, hop⟩
        simp [e4, e5, e2, e17, e18] at q4 q5 q2 q17 q18
        simp [onB, onN, q4, q5, q2, q17, q18, q9, hw]
        refine ⟨xs ++ [m.off hp (l.getD j 0), m.onto hp (l.getD j 0)], kk', ⟨by simp, rfl⟩, hop, by simp; omega, ?_, ?_⟩
        · simp only [more, hm, List.sum_append, hsum]; simp
        · intro x hx
          rcases List.mem_append.1 hx with h1 | h1
          · exact hbd x h1
          · simp only [List.mem_cons, List.not_mem_nil, or_false] at h1
            rcases h1 with rfl | rfl
            · exact off_bd m hp _ hn
            · exact onto_bd m hp _ hn
      · rw [if_neg hq] at hcm
        have hmo : more b.ms l hp (j + 1) = more b.ms l hp j := by
          simp only [more, hm, Mv.off, Mv.onto]
          rw [if_neg (fun h => hq (.inl h)), if_neg (fun h => hq (.inr h))]; simp
        simp [g75_stone_book_more_l1, e4, e5, e2, e17, e18, e9, hj, hw, hsp, hcm]
        exact ⟨xs, kk, ⟨rfl, rfl⟩, ho, by omega, by rw [hmo]; exact hsum, hbd⟩
    · rintro e h ⟨e4, e5, e2, e17, e18, xs, kk, e9, ho, hlen, hsum, hbd⟩
      have := c95 xs (by omega) hbd
      simp [g75_stone_book_more_l1, e4, e5, e2, e17, e18, e9, onB, onN, this, hsum, results, rdRess, rdRes]
end Av
end

section
/- Contracts: what is right; how much a heap can have had at first. -/
set_option linter.unusedSimpArgs false
set_option linter.unusedVariables false
namespace Av
open Go (IntKind BinOp UnOp)

abbrev inL (L : List Int) : Nat → Bool := fun k => decide ((k : Int) ∈ L)
theorem c98 (b : Bk) (hok : b.ok = true) (L : List Int) (hL : (L.length : Int) ≤ 9223372036854775807) (ks vs) (hc : Chg b.ms ks vs) (k : Nat) (hk : k < b.ms.length) (n : Int) (hn : 0 ≤ n ∧ n ≤ 6) :
    icall pr (.fn 98 [bk8 b L ks vs] []) [.int .i64 k, .int .i64 n] = some (.bool (b.right (inL L) k n)) := by
  refine icall_fn fn98 rfl (by simp [hc.1, hc.2.1]) rfl rfl ?_
  have hm : b.ms[k]? = some b.ms[k] := List.getElem?_eq_getElem hk
  have hmo := ok_mv hok hm
  have hr : b.right (inL L) k n = (decide ((k : Int) ∈ L) || decide (0 ≤ b.ms[k].n - n ∧ b.ms[k].n - n ≤ b.lie b.ms[k].c)) := by simp only [Bk.right, hm]
  rw [hr]
  have hw : IntKind.wrap .i64 (b.ms[k].n - n) = b.ms[k].n - n := wrap_id (by omega) (by omega)
  generalize hmm : b.ms[k] = m at *
  by_cases hin : (k : Int) ∈ L
  · simp [g98_stone_book_right, g98_stone_book_right_c, results, rdRess, rdRes, hk, hmm, c90 L hL, hin]
  · rcases (show m.c = 0 ∨ m.c = 1 ∨ m.c = 2 ∨ m.c = 3 by omega) with h1 | h1 | h1 | h1 <;>
      simp [g98_stone_book_right, g98_stone_book_right_c, results, rdRess, rdRes, hk, hmm, c90 L hL, hin, h1, hw, c59, Bk.lie]

theorem c100 (b : Bk) (hok : b.ok = true) (L : List Int) (ks vs) (hc : Chg b.ms ks vs) (l : List Int) (hl : lok l) (k : Nat) (hk : k < b.hs.length) (x : Hp) (hx : b.hs[k]? = some x) :
    icall pr (.fn 100 [] []) [bk8 b L ks vs, .agg (iv l), .int .i64 k] = some (.tup [.agg [.int .i64 (b.firstLo l k x), .int .i64 (b.firstHi l k x)], .bool (decide (b.firstLo l k x ≤ b.firstHi l k x))]) := by
  refine icall_fn fn100 rfl (by simp) (by simp [hc.1, hc.2.1]) rfl ?_
  have hlen := ok_len hok
  have hxo := ok_hp hok hx
  have hmb := more_bd b.ms hl k b.ms.length
  have hpa := part_ivall hl.1
  have hxx : b.hs[k] = x := by rw [List.getElem?_eq_getElem hk] at hx; exact Option.some.inj hx
  have c1 := c75 b (by omega) L ks vs hc l hl k (by omega) b.ms.length (Nat.le_refl _)
  have hw1 : IntKind.wrap .i64 (x.c - more b.ms l k b.ms.length) = x.c - more b.ms l k b.ms.length := wrap_id (by omega) (by omega)
  have hw2 : IntKind.wrap .i64 (x.d - more b.ms l k b.ms.length) = x.d - more b.ms l k b.ms.length := wrap_id (by omega) (by omega)
  have hw3 : IntKind.wrap .i64 ((b.ms.length : Int) + 1) = b.ms.length + 1 := wrap_id (by omega) (by omega)
  simp [g100_stone_book_first, g100_stone_book_first_c, hk, hxx, hpa, c1, hw1, hw2, hw3]
  refine wpr_seq (wpr_oblock (loop_up pr (fun j e h => e 3 = .lbox 0 (bk8c b L ks vs) ∧ e 4 = .lbox 0 (iv l) ∧ e 2 = .int .i64 k ∧ e 6 = .lbox 0 [.int .i64 0, .int .i64 0] ∧ e 49 = .int .i64 ((b.ms.length : Int) + 1) ∧ e 50 = .int .i64 j ∧
      e 10 = .lbox 0 [.int .i64 (lowTo b.ms l k (max x.a (x.c - more b.ms l k b.ms.length)) j), .int .i64 (b.firstHi l k x)]) (b.ms.length + 1) ?_ ?_ 0 _ _ (by omega) ⟨rfl, rfl, rfl, rfl, rfl, rfl, rfl⟩))
  · rintro j e h hj ⟨e3, e4, e2, e6, e49, e50, e10⟩
    have c2 := c75 b (by omega) L ks vs hc l hl k (by omega) j (by omega)
    have hb2 := more_bd b.ms hl k j
    have hw : IntKind.wrap .i64 ((j : Int) + 1) = j + 1 := wrap_id (by omega) (by omega)
    have hw4 : IntKind.wrap .i64 (-more b.ms l k j) = -more b.ms l k j := wrap_id (by omega) (by omega)
    have hj2 : (j : Int) < (b.ms.length : Int) + 1 := by omega
    simp [g100_stone_book_first_l0, e3, e4, e2, e6, e49, e50, e10, hj2, c2, hw, hw4, hpa, lowTo]
  · rintro e h ⟨e3, e4, e2, e6, e49, e50, e10⟩
    simp [g100_stone_book_first_l0, e3, e4, e2, e6, e49, e50, e10, onB, onN, results, rdRess, rdRes, Bk.firstLo]
    rfl
end Av
end

section
/- The truths of a book, one by one, to whoever asks for them. -/
set_option linter.unusedSimpArgs false
set_option linter.unusedVariables false
namespace Av
open Go (IntKind BinOp UnOp)

theorem splice_app {P Q new : List AV} {off : Nat} (h : P.length = off) : splice (P ++ Q) off new = P ++ new ++ Q.drop new.length := by
  subst h
  rw [splice, List.take_left]
  rw [List.drop_append, List.drop_eq_nil_of_le (by omega)]; simp
/-- what heaps can have had at first, the first k of four -/
def firsts (b : Bk) (l : List Int) (k : Nat) : List Int := (List.range k).flatMap fun (j : Nat) => match b.hs[j]? with | some x => [b.firstLo l j x, b.firstHi l j x] | none => [0, 0]
theorem firsts_len (b : Bk) (l : List Int) (k : Nat) : (firsts b l k).length = 2 * k := by
  induction k with
  | zero => rfl
  | succ k ih =>
    simp only [firsts, List.range_succ, List.flatMap_append, List.length_append, List.flatMap_cons, List.flatMap_nil, List.append_nil] at ih ⊢
    rw [ih]; cases b.hs[k]? <;> simp <;> omega
theorem firsts_succ (b : Bk) (l : List Int) (k : Nat) (x : Hp) (h : b.hs[k]? = some x) : firsts b l (k + 1) = firsts b l k ++ [b.firstLo l k x, b.firstHi l k x] := by
  simp only [firsts, List.range_succ, List.flatMap_append, List.flatMap_cons, List.flatMap_nil, List.append_nil, h]
/-- a truth's cells -/
def tcell (b : Bk) (l : List Int) (k : Nat) : List Int := l ++ firsts b l k ++ List.replicate (8 - 2 * k) 0
theorem tcell_succ {b : Bk} {l : List Int} (hl : lok l) {k : Nat} (hk : k < 4) {x : Hp} (h : b.hs[k]? = some x) :
    splice (iv (tcell b l k)) (5 + k * 2) [.int .i64 (b.firstLo l k x), .int .i64 (b.firstHi l k x)] = iv (tcell b l (k + 1)) := by
  have hr : List.replicate (8 - 2 * k) (0 : Int) = 0 :: 0 :: List.replicate (8 - 2 * (k + 1)) 0 := by
    rw [show 8 - 2 * k = (8 - 2 * (k + 1)) + 1 + 1 by omega, List.replicate_succ, List.replicate_succ]
  rw [tcell, tcell, iv_append, splice_app (by rw [iv_len, List.length_append, firsts_len, hl.1]; omega), hr, firsts_succ b l k x h]
  simp
theorem tcell_len {b : Bk} {l : List Int} (hl : lok l) {k : Nat} (hk : k ≤ 4) : (tcell b l k).length = 13 := by
  simp [tcell, firsts_len, hl.1]; omega

/-- whoever asks goes on or stops -/
def run {σ : Type} (st : σ → List Int → σ × Bool) : σ → List (List Int) → σ × Bool
  | s, [] => (s, true)
  | s, l :: ls => if (st s l).2 then run st (st s l).1 ls else ((st s l).1, false)
theorem run_append {σ : Type} (st : σ → List Int → σ × Bool) (s : σ) (a b : List (List Int)) : run st s (a ++ b) = if (run st s a).2 then run st (run st s a).1 b else run st s a := by
  induction a generalizing s with
  | nil => simp [run]
  | cons x a ih =>
    simp only [List.cons_append, run]
    by_cases h : (st s x).2 = true
    · simp only [h, if_true]; exact ih _
    · simp only [h, Bool.false_eq_true, if_false]

abbrev cartV (b : Bk) (L : List Int) (ks vs : List AV) (yv : AV) (c : Nat) : AV := .fn 99 [] [.cptr (bk8c b L ks vs), .cptr [yv], .cptr [.fn 98 [bk8 b L ks vs] []], .ptr c 0]

theorem l99_0 (b : Bk) (hok : b.ok = true) (L ks vs) (hc : Chg b.ms ks vs) (l : List Int) (hl : lok l) (e : Env) (h : H)
    (e2 : e 2 = .cptr (bk8c b L ks vs)) (e6 : e 6 = .lbox 0 (iv l)) (e9 : e 9 = .lbox 0 (iv (tcell b l 0))) (e25 : e 25 = .int .i64 b.hs.length) (e26 : e 26 = .int .i64 0) :
    wpr (den pr (.loop g99_stone_book_truths_1_1_l0) e h) fun o e' h' => h' = h ∧ (if b.fits l then o = .exit 0 ∧ e' 3 = e 3 ∧ e' 9 = .lbox 0 (iv (tcell b l b.hs.length)) else o = .ret ∧ e' 8 = .bool true) := by
  have hlen := ok_len hok
  have hpa := part_ivall hl.1
  refine loop_up pr (fun k e' h' => h' = h ∧ e' 2 = e 2 ∧ e' 6 = e 6 ∧ e' 25 = e 25 ∧ e' 3 = e 3 ∧ e' 26 = .int .i64 k ∧ e' 9 = .lbox 0 (iv (tcell b l k)) ∧
    ∀ j, j < k → ∀ x, b.hs[j]? = some x → b.firstLo l j x ≤ b.firstHi l j x) b.hs.length ?_ ?_ 0 e h (by omega) ⟨rfl, rfl, rfl, rfl, rfl, e26, e9, by omega⟩
  · rintro k e' h' hk ⟨rfl, q2, q6, q25, q3, q26, q9, hfit⟩
    rw [e2] at q2; rw [e6] at q6; rw [e25] at q25
    have hx : b.hs[k]? = some b.hs[k] := List.getElem?_eq_getElem hk
    have c1 := c100 b hok L ks vs hc l hl k hk _ hx
    have ht := tcell_succ hl (show k < 4 by omega) hx
    have htl := tcell_len (b := b) hl (show k ≤ 4 by omega)
    have hw : IntKind.wrap .i64 ((k : Int) + 1) = k + 1 := wrap_id (by omega) (by omega)
    have hk4 : (k : Int) < 4 := by omega
    have h59 : 5 + k * 2 + 2 ≤ 13 := by omega
    generalize b.hs[k] = x at *
    by_cases hq : b.firstLo l k x ≤ b.firstHi l k x
    · simp [g99_stone_book_truths_1_1_l0, q2, q6, q25, q3, q26, q9, hk, hpa, c1, hq, hk4, ht, htl, h59, hw, e2, e6, e25]
      intro j hj y hy
      by_cases h1 : j < k
      · exact hfit j h1 y hy
      · have : j = k := by omega
        subst this; rw [hx] at hy; cases hy; exact hq
    · have hnf : b.fits l = false := by
        rw [← Bool.not_eq_true, Bk.fits, List.all_eq_true]
        intro hall
        have := hall k (List.mem_range.2 hk)
        rw [hx] at this; simp at this; exact hq this
      simp [g99_stone_book_truths_1_1_l0, q2, q6, q25, q3, q26, q9, hk, hpa, c1, hq, hk4, ht, htl, h59, hw, e2, e6, e25, hnf, onB]
  · rintro e' h' ⟨rfl, q2, q6, q25, q3, q26, q9, hfit⟩
    rw [e25] at q25
    have hnf : b.fits l = true := by
      rw [Bk.fits, List.all_eq_true]
      intro k hk
      cases hx : b.hs[k]? with
      | none => rfl
      | some x => simpa using hfit k (List.mem_range.1 hk) x hx
    simp [g99_stone_book_truths_1_1_l0, q25, q26, q3, q9, hnf]
end Av
end

section
/- All truths of a book are told one after the other, until whoever asks has enough. -/
set_option linter.unusedSimpArgs false
set_option linter.unusedVariables false
namespace Av
open Go (IntKind BinOp UnOp)

theorem cart {σ : Type} (b : Bk) (hok : b.ok = true) (L : List Int) (hL : (L.length : Int) ≤ 9223372036854775807) (ks vs : List AV) (hc : Chg b.ms ks vs) (yv : AV) (hyf : evt yv = some yv) (c : Nat)
    (st : σ → List Int → σ × Bool) (I D : σ → H → Prop)
    (hI : ∀ s h, I s h → h.get c = some (.cells [cartV b L ks vs yv c]) ∧ c < h.n)
    (hy : ∀ s h l, lok l → I s h → ∃ h', dcall pr yv [.agg (iv (tcell b l b.hs.length))] h = some (.bool (st s l).2, h') ∧ (if (st s l).2 then I (st s l).1 h' else D (st s l).1 h')) :
    ∀ (r at_ : Nat) (l : List Int) (s : σ) (h : H), at_ + r = b.ms.length → lok l → I s h →
      ∃ h', dcall pr (cartV b L ks vs yv c) [.agg (iv l), .int .i64 at_] h = some (.bool (run st s (b.carts (inL L) l r)).2, h') ∧
        (if (run st s (b.carts (inL L) l r)).2 then I (run st s (b.carts (inL L) l r)).1 h' else D (run st s (b.carts (inL L) l r)).1 h') := by
  intro r
  induction r with
  | zero =>
    intro at_ l s h hat hl hi
    have hlen := ok_len hok
    have hpa := part_ivall hl.1
    have htl := tcell_len (b := b) hl (show b.hs.length ≤ 4 by omega)
    have hpt := part_ivall htl
    have hat2 : (at_ : Int) = b.ms.length := by omega
    suffices hh : ∃ v h', dcall pr (cartV b L ks vs yv c) [.agg (iv l), .int .i64 at_] h = some (v, h') ∧ (v = .bool (run st s (b.carts (inL L) l 0)).2 ∧ (if (run st s (b.carts (inL L) l 0)).2 then I (run st s (b.carts (inL L) l 0)).1 h' else D (run st s (b.carts (inL L) l 0)).1 h')) by
      obtain ⟨v, h', h1, rfl, h2⟩ := hh; exact ⟨h', h1, h2⟩
    refine dcall_of fn99 rfl ?_
    have hsp : splice [.int .i64 0, .int .i64 0, .int .i64 0, .int .i64 0, .int .i64 0, .int .i64 0, .int .i64 0, .int .i64 0, .int .i64 0, .int .i64 0, .int .i64 0, .int .i64 0, .int .i64 0] 0 (iv l) = iv (tcell b l 0) := by
      simp [splice_0, hl.1, tcell, firsts, List.replicate]
    simp only [splice_0] at hsp
    simp [g99_stone_book_truths_1_1, g99_stone_book_truths_1_1_c, hpa, hat2, hl.1] at hsp ⊢
    simp [hsp, tcell_len (b := b) hl (show 0 ≤ 4 by omega)]
    refine wpr_seq (wpr_seq (wpr_oblock (wpr_mono (l99_0 b hok L ks vs hc l hl _ _ rfl rfl rfl rfl rfl) ?_)))
    rintro o e h' ⟨rfl, hq⟩
    by_cases hf : b.fits l = true
    · rw [if_pos hf] at hq
      obtain ⟨rfl, q3, q9⟩ := hq
      simp at q3
      obtain ⟨h2, hd, hr⟩ := hy s h' l hl hi
      cases hst : (st s l).2 with
      | true =>
        rw [hst] at hd hr
        simp [onB, onN, q3, hyf, q9, hpt, hd, results, rdRess, rdRes, Bk.carts, hf, run, hst] at hr ⊢
        exact hr
      | false =>
        rw [hst] at hd hr
        simp [onB, onN, q3, hyf, q9, hpt, hd, results, rdRess, rdRes, Bk.carts, hf, run, hst] at hr ⊢
        exact hr
    · rw [if_neg hf] at hq
      obtain ⟨rfl, q8⟩ := hq
      simp [onB, onN, q8, results, rdRess, rdRes, Bk.carts, hf, run, hi]
  | succ r ih =>
    intro at_ l s h hat hl hi
    have hlen := ok_len hok
    have hpa := part_ivall hl.1
    have hat2 : ¬ (at_ : Int) = b.ms.length := by omega
    have hat3 : b.ms.length - (r + 1) = at_ := by omega
    suffices hh : ∃ v h', dcall pr (cartV b L ks vs yv c) [.agg (iv l), .int .i64 at_] h = some (v, h') ∧ (v = .bool (run st s (b.carts (inL L) l (r + 1))).2 ∧ (if (run st s (b.carts (inL L) l (r + 1))).2 then I (run st s (b.carts (inL L) l (r + 1))).1 h' else D (run st s (b.carts (inL L) l (r + 1))).1 h')) by
      obtain ⟨v, h', h1, rfl, h2⟩ := hh; exact ⟨h', h1, h2⟩
    refine dcall_of fn99 rfl ?_
    simp [g99_stone_book_truths_1_1, g99_stone_book_truths_1_1_c, hat2]
    let f : Nat → List (List Int) := fun n => if b.right (inL L) at_ (n : Int) then b.carts (inL L) (l.set at_ (n : Int)) r else []
    have hall : b.carts (inL L) l (r + 1) = (List.range 7).flatMap f := by simp only [Bk.carts, hat3, f]
    have hsucc : ∀ k, (List.range (k + 1)).flatMap f = (List.range k).flatMap f ++ f k := by
      intro k; simp [List.range_succ]
    have hrest : ∀ k m, k ≤ m → ∃ rest, (List.range m).flatMap f = (List.range k).flatMap f ++ rest := by
      intro k m hkm
      induction hkm with
      | refl => exact ⟨[], by simp⟩
      | step _ ih => obtain ⟨rest, h1⟩ := ih; exact ⟨rest ++ f _, by rw [Nat.succ_eq_add_one, hsucc, h1, List.append_assoc]⟩
    refine wpr_seq (wpr_oblock (loop_up pr (fun k e' h' => e' 1 = .int .i64 at_ ∧ e' 4 = .cptr [.fn 98 [bk8 b L ks vs] []] ∧ e' 5 = .ptr c 0 ∧ e' 46 = .int .i64 k ∧
      (run st s ((List.range k).flatMap f)).2 = true ∧ I (run st s ((List.range k).flatMap f)).1 h' ∧ ∃ l', e' 6 = .lbox 0 (iv l') ∧ l'.length = 5 ∧ ∀ z, l'.set at_ z = l.set at_ z) 7 ?_ ?_ 0 _ _ (by omega) ⟨rfl, rfl, rfl, rfl, by simp [run], by simpa [run] using hi, l, rfl, hl.1, fun _ => rfl⟩))
    · rintro k e' h' hk ⟨q1, q4, q5, q46, hrt, hinv, l', q6, hl5, hset⟩
      have c1 := c98 b hok L hL ks vs hc at_ (by omega) (k : Int) (by omega)
      have hw : IntKind.wrap .i64 ((k : Int) + 1) = k + 1 := wrap_id (by omega) (by omega)
      have hw2 : IntKind.wrap .i64 ((at_ : Int) + 1) = (at_ : Int) + 1 := wrap_id (by omega) (by omega)
      have hk7 : (k : Int) < 7 := by omega
      have hat5 : (at_ : Int) < 5 := by omega
      have hat4 : at_ ≤ 4 := by omega
      have hsp := splice_iv1 (l := l') (k := at_) (k : Int) (by omega)
      rw [hset] at hsp
      have hls := lok_set hl at_ k hk
      have hpa2 := part_ivall hls.1
      obtain ⟨hcg, hcn⟩ := hI _ _ hinv
      by_cases hr : b.right (inL L) at_ (k : Int) = true
      · have hfk : f k = b.carts (inL L) (l.set at_ (k : Int)) r := by simp only [f, hr, if_true]
        obtain ⟨h2, hd, hrr⟩ := ih (at_ + 1) (l.set at_ (k : Int)) (run st s ((List.range k).flatMap f)).1 h' (by omega) hls hinv
        rw [← hfk] at hd hrr
        push_cast at hd
        have hrun : run st s ((List.range (k + 1)).flatMap f) = run st (run st s ((List.range k).flatMap f)).1 (f k) := by
          rw [hsucc, run_append, if_pos hrt]
        cases hst : (run st (run st s ((List.range k).flatMap f)).1 (f k)).2 with
        | true =>
          rw [hst] at hd hrr
          simp [g99_stone_book_truths_1_1_l1, q1, q4, q5, q46, q6, hk7, hat5, hat4, hl5, c1, hr, hsp, hw, hw2, hcg, hcn, hpa2, hd, hrun, hst]
          exact ⟨hrr, l.set at_ (k : Int), rfl, hls.1, by simp⟩
        | false =>
          rw [hst] at hd hrr
          obtain ⟨rest, hrs⟩ := hrest (k + 1) 7 (by omega)
          have hrun2 : run st s (b.carts (inL L) l (r + 1)) = run st (run st s ((List.range k).flatMap f)).1 (f k) := by
            rw [hall, hrs, run_append, hrun, hst]; simp
          rw [hrun2]
          simp [g99_stone_book_truths_1_1_l1, q1, q4, q5, q46, q6, hk7, hat5, hat4, hl5, c1, hr, hsp, hw, hw2, hcg, hcn, hpa2, hd, onB, onN, results, rdRess, rdRes, hst]
          exact hrr
      · have hfk : f k = [] := by simp only [f, hr]; rfl
        have hrun : run st s ((List.range (k + 1)).flatMap f) = run st s ((List.range k).flatMap f) := by
          rw [hsucc, hfk, List.append_nil]
        simp [g99_stone_book_truths_1_1_l1, q1, q4, q5, q46, q6, hk7, c1, hr, hw, hrun, hrt, hinv]
        exact ⟨l', rfl, hl5, hset⟩
    · rintro e' h' ⟨q1, q4, q5, q46, hrt, hinv, l', q6, hl5, hset⟩
      rw [← hall] at hrt hinv
      simp [g99_stone_book_truths_1_1_l1, q46, onB, onN, results, rdRess, rdRes, hrt, hinv]
end Av
end

section
/- A range over all truths of a book. -/
set_option linter.unusedSimpArgs false
set_option linter.unusedVariables false
namespace Av
open Go (IntKind BinOp UnOp)

abbrev truthsV (b : Bk) (L : List Int) (ks vs : List AV) : AV := .fn 97 [] [.cptr (bk8c b L ks vs)]
theorem c82 (b : Bk) (L ks vs) (hc : Chg b.ms ks vs) : icall pr (.fn 82 [] []) [bk8 b L ks vs] = some (truthsV b L ks vs) := by
  refine icall_fn fn82 rfl (by simp [hc.1, hc.2.1]) (by simp [hc.1, hc.2.1]) (by simp [hc.1, hc.2.1]) ?_
  simp [g82_stone_book_truths, g82_stone_book_truths_c, results, rdRess, rdRes]

theorem range_truths {σ : Type} (b : Bk) (hok : b.ok = true) (L : List Int) (hL : (L.length : Int) ≤ 9223372036854775807) (ks vs : List AV) (hc : Chg b.ms ks vs)
    (Ks : Nat → Prop) (U : σ → H → Prop) (st : σ → List Int → σ × Bool) (f : Opd) (p0 : Nat) (asn body : ACode) (e : Env) (h : H) (s : σ)
    (hf : ev pr e f = some (truthsV b L ks vs)) (hK : ∀ j, Ks j → j < h.n)
    (hU : ∀ s h h', (∀ j, Ks j → h'.get j = h.get j) → h.n ≤ h'.n → U s h → U s h')
    (hb : ∀ l, lok l → ∃ e1, (∀ h', den pr asn ((snap e).set p0 (.agg (iv (tcell b l b.hs.length)))) h' = some (.normal, e1, h')) ∧
      ∀ s h', h.n ≤ h'.n → U s h' → wpr (den pr body e1 h') fun o e2 h2 =>
      (∀ j, ¬ Ks j → h2.get j = h'.get j) ∧ h2.n = h'.n ∧ U (st s l).1 h2 ∧ (if (st s l).2 then o = .normal else o = .ret))
    (hs : U s h) :
    wpr (den pr (.rangeF f [p0] asn body) e h) fun o e' h' => e' = e ∧ U (run st s (b.all (inL L))).1 h' ∧ h.n ≤ h'.n ∧ (∀ j, j < h.n → ¬ Ks j → h'.get j = h.get j) ∧
      (if (run st s (b.all (inL L))).2 then o = .normal else o = .ret) := by
  have hlen := ok_len hok
  let lp : Nat → Option ACode → AObj := fun n p => .loop ⟨snap e, [p0], asn, body, n, p⟩
  let I : σ → H → Prop := fun s h' => U s h' ∧ h'.get h.n = some (lp 0 none) ∧ h'.get (h.n + 1) = some (.cells [cartV b L ks vs (.yld h.n) (h.n + 1)]) ∧ h.n + 2 ≤ h'.n ∧ ∀ j, j < h.n → ¬ Ks j → h'.get j = h.get j
  let D : σ → H → Prop := fun s h' => U s h' ∧ h'.get h.n = some (lp 2 (some .ret)) ∧ h.n + 2 ≤ h'.n ∧ ∀ j, j < h.n → ¬ Ks j → h'.get j = h.get j
  have hkn : ∀ j, Ks j → j ≠ h.n ∧ j ≠ h.n + 1 := fun j hj => by have := hK j hj; omega
  have hy : ∀ s h' l, lok l → I s h' → ∃ h2, dcall pr (.yld h.n) [.agg (iv (tcell b l b.hs.length))] h' = some (.bool (st s l).2, h2) ∧ (if (st s l).2 then I (st s l).1 h2 else D (st s l).1 h2) := by
    rintro s h' l hl ⟨i1, i2, i3, i4, i5⟩
    have hu1 : U s (h'.put h.n (lp 1 none)) := hU _ _ _ (fun j hj => by simp [(hkn j hj).1]) (by simp) i1
    obtain ⟨e1, ha, hb1⟩ := hb l hl
    obtain ⟨o, e2, h2, a2, a3, a4, a5, a6⟩ := hb1 s (h'.put h.n (lp 1 none)) (by simp; omega) hu1
    have hg : ¬ Ks h.n := fun hk => (hkn _ hk).1 rfl
    have hg1 : ¬ Ks (h.n + 1) := fun hk => (hkn _ hk).2 rfl
    have hgl : h2.get h.n = some (lp 1 none) := by rw [a3 _ hg]; simp
    cases hst : (st s l).2 with
    | true =>
      rw [hst] at a6
      simp at a6
      refine ⟨h2.put h.n (lp 0 none), ?_, ?_⟩
      · rw [dcall_yld, i2]
        simp only [lp, List.length_singleton, and_self, if_true, setAll, ha, i2]
        simp only [lp] at a2 hgl
        rw [a2]; simp only [hgl, a6]
      · simp only [if_true]
        refine ⟨hU _ _ _ (fun j hj => by simp [(hkn j hj).1]) (by simp) a5, by simp, ?_, by simp at a4 ⊢; omega, fun j hj hnk => ?_⟩
        · simp; rw [a3 _ hg1]; simpa using i3
        · have : j ≠ h.n := by omega
          simp [this]; rw [a3 _ hnk]; simpa [this] using i5 j hj hnk
    | false =>
      rw [hst] at a6
      simp at a6
      refine ⟨h2.put h.n (lp 2 (some .ret)), ?_, ?_⟩
      · rw [dcall_yld, i2]
        simp only [lp, List.length_singleton, and_self, if_true, setAll, ha, i2]
        simp only [lp] at a2 hgl
        rw [a2]; simp only [hgl, a6]
      · simp only [Bool.false_eq_true, if_false]
        refine ⟨hU _ _ _ (fun j hj => by simp [(hkn j hj).1]) (by simp) a5, by simp, by simp at a4 ⊢; omega, fun j hj hnk => ?_⟩
        have : j ≠ h.n := by omega
        simp [this]; rw [a3 _ hnk]; simpa [this] using i5 j hj hnk
  have hz := cart b hok L hL ks vs hc (.yld h.n) rfl (h.n + 1) st I D (fun s h' hi => ⟨hi.2.2.1, by have := hi.2.2.2.1; omega⟩) (fun s h' l hl hi => hy s h' l hl hi)
    b.ms.length 0 zeros s (((h.new (lp 0 none)).new (.cells [.nilf])).put (h.n + 1) (.cells [cartV b L ks vs (.yld h.n) (h.n + 1)])) (by omega) lok_zeros ?_
  · obtain ⟨h2, z1, z2⟩ := hz
    have hcall : ∃ v h', dcall pr (truthsV b L ks vs) [.yld h.n] (h.new (lp 0 none)) = some (v, h') ∧ h' = h2 := by
      refine dcall_of fn97 rfl ?_
      simp at z1
      simp [g97_stone_book_truths_1, g97_stone_book_truths_1_c, c94, z1, results, rdRess]
    obtain ⟨v, h', hcl, rfl⟩ := hcall
    simp only [Bk.all]
    rw [den_rangeF, hf]
    simp only [lp] at hcl
    simp only [hcl]
    by_cases hr : (run st s (b.carts (inL L) zeros b.ms.length)).2 = true
    · rw [if_pos hr] at z2
      obtain ⟨i1, i2, i3, i4, i5⟩ := z2
      simp only [i2, lp]
      simp only [hr, if_true]
      refine ⟨.normal, e, _, rfl, rfl, hU _ _ _ (fun j hj => by simp [(hkn j hj).1]) (by simp) i1, by simp; omega, fun j hj hnk => ?_, rfl⟩
      have : j ≠ h.n := by omega
      simp [this]; exact i5 j hj hnk
    · rw [if_neg hr] at z2
      obtain ⟨i1, i2, i4, i5⟩ := z2
      simp only [i2, lp]
      simp only [hr, Bool.false_eq_true, if_false]
      refine ⟨.ret, e, _, rfl, rfl, hU _ _ _ (fun j hj => by simp [(hkn j hj).1]) (by simp) i1, by simp; omega, fun j hj hnk => ?_, rfl⟩
      have : j ≠ h.n := by omega
      simp [this]; exact i5 j hj hnk
  · refine ⟨hU _ _ _ (fun j hj => ?_) (by simp; omega) hs, by simp, by simp, by simp, fun j hj hnk => ?_⟩
    · have := hkn j hj
      simp [this.1, this.2]
    · simp [show j ≠ h.n by omega, show j ≠ h.n + 1 by omega]
end Av
end

section
/- Contracts: a book is opened. -/
set_option linter.unusedSimpArgs false
set_option linter.unusedVariables false
namespace Av
open Go (IntKind BinOp UnOp)

abbrev keyV (q : Int × Int) : AV := .agg [.int .i64 q.1, .int .i64 q.2]
def encM (S : List (Int × Int)) : List (AV × AV) := S.map fun q => (keyV q, .bool true)
def ins (S : List (Int × Int)) (q : Int × Int) : List (Int × Int) := if q ∈ S then S else S ++ [q]
theorem mem_ins (S : List (Int × Int)) (q r : Int × Int) : r ∈ ins S q ↔ r ∈ S ∨ r = q := by
  unfold ins; split
  · constructor
    · exact .inl
    · rintro (h | rfl) <;> assumption
  · simp
theorem eqk_key (q r : Int × Int) : eqk (some 2) (keyV q) (keyV r) = some (decide (q = r)) := by
  obtain ⟨a, c⟩ := q
  obtain ⟨a', c'⟩ := r
  simp only [eqk, aeqs, aeq1, List.length_cons, List.length_nil, and_self, if_true, Prod.mk.injEq]
  by_cases h1 : a = a' <;> by_cases h2 : c = c' <;> simp [h1, h2]
theorem setk_enc (S : List (Int × Int)) (q : Int × Int) : setk 2 (keyV q) (.bool true) (encM S) = some (encM (ins S q)) := by
  induction S with
  | nil => rfl
  | cons r S ih =>
    simp only [encM, List.map_cons, setk, eqk_key]
    by_cases h : q = r
    · subst h; simp [ins]
    · simp only [h, decide_false]
      simp only [encM] at ih
      rw [ih]
      by_cases h2 : q ∈ S <;> simp [ins, h, h2]
theorem findv_enc (S : List (Int × Int)) (q : Int × Int) : findv 2 (keyV q) (S.map keyV) (S.map fun _ => .bool true) = some (if q ∈ S then some (.bool true) else none) := by
  induction S with
  | nil => rfl
  | cons r S ih =>
    simp only [List.map_cons, findv, eqk_key]
    by_cases h : q = r
    · subst h; simp
    · simp only [h, decide_false, List.tail_cons, ih, List.mem_cons, false_or]
def chS (ms : List Mv) : Nat → List (Int × Int)
  | 0 => [(-1, -1)]
  | k + 1 => match ms[k]? with
    | some m => ins (ins (chS ms k) (m.f, (k : Int) + 1)) (m.t, (k : Int) + 1)
    | none => chS ms k
theorem mem_chS (ms : List Mv) (h : Int) (hh : 0 ≤ h) (j : Nat) (m : Mv) (hm : ms[j]? = some m) : ∀ k, (h, (j : Int) + 1) ∈ chS ms k ↔ j < k ∧ (m.f = h ∨ m.t = h) := by
  intro k
  induction k with
  | zero => simp [chS]; omega
  | succ k ih =>
    simp only [chS]
    cases hk : ms[k]? with
    | none =>
      simp only [ih]
      constructor
      · rintro ⟨h1, h2⟩; exact ⟨by omega, h2⟩
      · rintro ⟨h1, h2⟩
        refine ⟨?_, h2⟩
        by_cases hjk : j = k
        · subst hjk; rw [hk] at hm; cases hm
        · omega
    | some m' =>
      simp only [mem_ins, ih, Prod.mk.injEq]
      by_cases hjk : j = k
      · subst hjk
        rw [hk] at hm; cases hm
        constructor
        · rintro ((⟨h1, _⟩ | ⟨h1, _⟩) | ⟨h1, _⟩)
          · omega
          · exact ⟨by omega, .inl h1.symm⟩
          · exact ⟨by omega, .inr h1.symm⟩
        · rintro ⟨_, h1 | h1⟩
          · exact .inl (.inr ⟨h1.symm, rfl⟩)
          · exact .inr ⟨h1.symm, rfl⟩
      · constructor
        · rintro ((⟨h1, h2⟩ | ⟨_, h1⟩) | ⟨_, h1⟩)
          · exact ⟨by omega, h2⟩
          · omega
          · omega
        · rintro ⟨h1, h2⟩
          exact .inl (.inl ⟨by omega, h2⟩)
def chKs (b : Bk) : List AV := (chS b.ms b.ms.length).map keyV
def chVs (b : Bk) : List AV := (chS b.ms b.ms.length).map fun _ => .bool true
theorem chg_ok (b : Bk) : Chg b.ms (chKs b) (chVs b) := by
  refine ⟨?_, ?_, fun h k m hm hh => ?_⟩
  · unfold chKs
    generalize chS b.ms b.ms.length = S
    induction S with
    | nil => rfl
    | cons q S ih => simpa [keyV] using ih
  · unfold chVs
    generalize chS b.ms b.ms.length = S
    induction S with
    | nil => rfl
    | cons q S ih => simpa using ih
  · have := findv_enc (chS b.ms b.ms.length) (h, (k : Int) + 1)
    unfold chKs chVs
    rw [this]
    have h2 := mem_chS b.ms h hh k m hm b.ms.length
    have h3 : k < b.ms.length := (List.getElem?_eq_some_iff.1 hm).1
    simp only [h2, h3, true_and]
/-- a book as it is opened -/
abbrev opV (b : Bk) (L : List Int) : AV := bk8 b L (chKs b) (chVs b)
abbrev opC (b : Bk) (L : List Int) : List AV := bk8c b L (chKs b) (chVs b)
theorem c55 (b : Bk) (hb : b.fit) (L : List Int) : icall pr (.fn 55 [] []) [b.v, .agg [butV L]] = some (opV b L) := by
  have hcg := chg_ok b
  refine icall_fn fn55 rfl (by simp) (by simp) (by simp [hcg.1, hcg.2.1]) ?_
  have h0 := setk_enc [] (-1, -1)
  simp only [encM, List.map_nil] at h0
  simp [g55_stone_opened, g55_stone_opened_c, h0]
  refine wpr_seq (wpr_oblock (loop_up pr (fun k e h => e 15 = .sl (mvs b.ms) .shut ∧ e 16 = .int .i64 b.ms.length ∧ e 17 = .int .i64 k ∧ e 4 = .lbox 0 [.sl [] .exact, .sl [] .exact, .int .i64 0, .int .i64 0, .int .i64 0, .int .i64 0, .nilf, .nilm] ∧
    e 5 = .lbox 0 [.sl (hvs b.hs) .shut, .sl (mvs b.ms) .shut, .int .i64 b.l0, .int .i64 b.l1, .int .i64 b.l2, .int .i64 b.l3, butV L, .mp 0] ∧ h.get 0 = some (.mp (encM (chS b.ms k)))) b.ms.length ?_ ?_ 0 _ _ (by omega) ⟨rfl, rfl, rfl, rfl, rfl, by simp [ins, chS, encM]⟩))
  · rintro k e h hk ⟨e15, e16, e17, e4, e5, hg⟩
    have hw : IntKind.wrap .i64 ((k : Int) + 1) = k + 1 := wrap_id (by omega) (by have := hb.2; omega)
    have hm : b.ms[k]? = some b.ms[k] := List.getElem?_eq_getElem hk
    have h1 := setk_enc (chS b.ms k) (b.ms[k].f, (k : Int) + 1)
    have h2 := setk_enc (ins (chS b.ms k) (b.ms[k].f, (k : Int) + 1)) (b.ms[k].t, (k : Int) + 1)
    have h3 : chS b.ms (k + 1) = ins (ins (chS b.ms k) (b.ms[k].f, (k : Int) + 1)) (b.ms[k].t, (k : Int) + 1) := by simp only [chS, hm]
    simp [g55_stone_opened_l0, e15, e16, e17, e4, e5, hg, hk, hw, h1, h2, h3]
  · rintro e h ⟨e15, e16, e17, e4, e5, hg⟩
    simp [g55_stone_opened_l0, e15, e16, e17, e4, e5, hg, onB, onN, results, rdRess, rdRes, chKs, chVs, encM]
end Av
end
