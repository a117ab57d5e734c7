/- TopWeather returns true for every input, and its input reads as it did: no condition. -/
import Derived.Test.YtnlflblfonkapaaGreatDoorAvMK
import Derived.Test.YtnlflblfonkapaaGreatDoorAvML
import Derived.Test.YtnlflblfonkapaaGreatDoorAvMH
set_option linter.all false
set_option linter.unusedSectionVars false
set_option linter.unusedVariables false
set_option linter.unusedSimpArgs false
set_option linter.unnecessarySimpa false
section
/- The plain law: what clocks tell of a coach, staffs tell of a rut. -/
set_option linter.unusedSimpArgs false
set_option linter.unusedVariables false
namespace Av

theorem okm_iff (Q : List (Int × Int)) (m : Int) : okm Q m = true ↔ ∀ p, p ∈ Q → p.1 - p.2 ≤ m ∧ m ≤ p.1 + p.2 := by
  unfold okm
  rw [List.all_eq_true]
  constructor
  · intro h p hp; have := h p hp; simp only [decide_eq_true_eq] at this; omega
  · intro h p hp; have := h p hp; simp only [decide_eq_true_eq]; omega
theorem loR_le (Q : List (Int × Int)) (n d : Int) : ∀ x, loR Q x n ≤ d ↔ x ≤ d ∧ ∀ p, p ∈ Q → p.1 - p.2 - n ≤ d := by
  induction Q with
  | nil => intro x; simp [loR]
  | cons q Q ih =>
    intro x
    have := ih (max x (q.1 - q.2 - n))
    simp only [loR, List.foldl_cons] at this ⊢
    rw [this]
    constructor
    · rintro ⟨h1, h2⟩
      refine ⟨by omega, fun p hp => ?_⟩
      rcases List.mem_cons.1 hp with rfl | hp
      · omega
      · exact h2 p hp
    · rintro ⟨h1, h2⟩
      exact ⟨by have := h2 q (by simp); omega, fun p hp => h2 p (by simp [hp])⟩
theorem le_hiR (Q : List (Int × Int)) (n d : Int) : ∀ x, d ≤ hiR Q x n ↔ d ≤ x ∧ ∀ p, p ∈ Q → d ≤ p.1 + p.2 - n := by
  induction Q with
  | nil => intro x; simp [hiR]
  | cons q Q ih =>
    intro x
    have := ih (min x (q.1 + q.2 - n))
    simp only [hiR, List.foldl_cons] at this ⊢
    rw [this]
    constructor
    · rintro ⟨h1, h2⟩
      refine ⟨by omega, fun p hp => ?_⟩
      rcases List.mem_cons.1 hp with rfl | hp
      · omega
      · exact h2 p hp
    · rintro ⟨h1, h2⟩
      exact ⟨by have := h2 q (by simp); omega, fun p hp => h2 p (by simp [hp])⟩
/-- a minute is right just if the depth lies in the span -/
theorem okm_span (Q : List (Int × Int)) (a z n d : Int) (h1 : a ≤ d) (h2 : d ≤ z) : okm Q (d + n) = true ↔ loR Q a n ≤ d ∧ d ≤ hiR Q z n := by
  rw [okm_iff, loR_le, le_hiR]
  constructor
  · intro h
    exact ⟨⟨h1, fun p hp => by have := h p hp; omega⟩, ⟨h2, fun p hp => by have := h p hp; omega⟩⟩
  · rintro ⟨⟨_, h3⟩, ⟨_, h4⟩⟩ p hp
    have := h3 p hp; have := h4 p hp; omega
/-- the truths of a coach, by the spans of a rut -/
theorem mem_tt2 {o : Ob} (ho : o.Ok) {Q : List (Int × Int)} {t : Tru} : t ∈ tt o Q ↔ ∃ w fr d, (w = o.low ∨ w = o.low + 1) ∧ (fr = 0 ∨ fr = 1) ∧ loR Q o.a (w + fr * o.c) ≤ d ∧ d ≤ hiR Q o.z (w + fr * o.c) ∧ t = ⟨fr, d + (w + fr * o.c), w⟩ := by
  have ha := ho.az; have hs := ho.s
  rw [mem_tt]
  constructor
  · rintro ⟨w, d, k, hw, hd, hk, hok, hst, rfl⟩
    simp only [Ob.slows] at hd
    have hmn : o.mn w d k = (o.a + d) + ((o.low + k) + (w : Int) * o.c) := by
      simp only [Ob.mn, Ob.cost]
      have : w = 0 ∨ w = 1 := by omega
      rcases this with rfl | rfl <;> simp <;> omega
    rw [hmn] at hok
    have h := (okm_span Q o.a o.z _ (o.a + d) (by omega) (by omega)).1 hok
    refine ⟨o.low + k, w, o.a + d, by omega, by omega, h.1, h.2, ?_⟩
    simp only [Ob.tr, hmn]
  · rintro ⟨w, fr, d, hw, hf, h1, h2, rfl⟩
    have h1' := (loR_le Q _ d o.a).1 h1
    have h2' := (le_hiR Q _ d o.z).1 h2
    have hok := (okm_span Q o.a o.z (w + fr * o.c) d h1'.1 h2'.1).2 ⟨h1, h2⟩
    have hmn : o.mn fr.toNat (d - o.a).toNat (w - o.low).toNat = d + (w + fr * o.c) := by
      simp only [Ob.mn, Ob.cost]
      rcases hf with rfl | rfl <;> simp <;> omega
    refine ⟨fr.toNat, (d - o.a).toNat, (w - o.low).toNat, by omega, by simp only [Ob.slows]; omega, by omega, by rw [hmn]; exact hok, by simp only [Ob.stops]; omega, ?_⟩
    simp only [Ob.tr, hmn, Tru.mk.injEq, true_and]
    omega
theorem ne_nil_mem {α : Type} (l : List α) : l ≠ [] ↔ ∃ x, x ∈ l := by
  cases l with
  | nil => simp
  | cons x l => exact ⟨fun _ => ⟨x, by simp⟩, fun _ => by simp⟩
theorem tt_rt {o : Ob} (ho : o.Ok) (Q : List (Int × Int)) : tt o Q ≠ [] ↔ rt o Q ≠ [] := by
  rw [ne_nil_mem, ne_nil_mem]
  constructor
  · rintro ⟨t, ht⟩
    obtain ⟨w, fr, d, hw, hf, h1, h2, rfl⟩ := (mem_tt2 ho).1 ht
    exact ⟨_, mem_rt.2 ⟨w, fr, hw, hf, by omega, rfl⟩⟩
  · rintro ⟨t, ht⟩
    obtain ⟨w, fr, hw, hf, h1, rfl⟩ := mem_rt.1 ht
    exact ⟨_, (mem_tt2 ho).2 ⟨w, fr, _, hw, hf, Int.le_refl _, h1, rfl⟩⟩
theorem is_so {o : Ob} (ho : o.Ok) : o.is = o.so := decide_eq_decide.2 (tt_rt ho o.q)
theorem can_eq {o : Ob} (ho : o.Ok) : canC o = canR o := funext fun l => decide_eq_decide.2 (tt_rt ho (o.left l))

theorem loT_ok (g : Tru → Int) (T : List Tru) : ∀ x, loT g x T ≤ x ∧ (∀ t, t ∈ T → loT g x T ≤ g t) ∧ (loT g x T = x ∨ ∃ t, t ∈ T ∧ g t = loT g x T) := by
  induction T with
  | nil => intro x; simp [loT]
  | cons q T ih =>
    intro x
    obtain ⟨h1, h2, h3⟩ := ih (min x (g q))
    simp only [loT, List.foldl_cons] at h1 h2 h3 ⊢
    refine ⟨by omega, fun t ht => ?_, ?_⟩
    · rcases List.mem_cons.1 ht with rfl | ht
      · omega
      · exact h2 t ht
    · rcases h3 with h3 | ⟨t, ht, h4⟩
      · rw [h3]
        by_cases hx : x ≤ g q
        · left; omega
        · right; exact ⟨q, by simp, by omega⟩
      · right; exact ⟨t, by simp [ht], h4⟩
theorem hiT_ok (g : Tru → Int) (T : List Tru) : ∀ x, x ≤ hiT g x T ∧ (∀ t, t ∈ T → g t ≤ hiT g x T) ∧ (hiT g x T = x ∨ ∃ t, t ∈ T ∧ g t = hiT g x T) := by
  induction T with
  | nil => intro x; simp [hiT]
  | cons q T ih =>
    intro x
    obtain ⟨h1, h2, h3⟩ := ih (max x (g q))
    simp only [hiT, List.foldl_cons] at h1 h2 h3 ⊢
    refine ⟨by omega, fun t ht => ?_, ?_⟩
    · rcases List.mem_cons.1 ht with rfl | ht
      · omega
      · exact h2 t ht
    · rcases h3 with h3 | ⟨t, ht, h4⟩
      · rw [h3]
        by_cases hx : g q ≤ x
        · left; omega
        · right; exact ⟨q, by simp, by omega⟩
      · right; exact ⟨t, by simp [ht], h4⟩
theorem loT'_ok (g : TrR → Int) (T : List TrR) : ∀ x, loT' g x T ≤ x ∧ (∀ t, t ∈ T → loT' g x T ≤ g t) ∧ (loT' g x T = x ∨ ∃ t, t ∈ T ∧ g t = loT' g x T) := by
  induction T with
  | nil => intro x; simp [loT']
  | cons q T ih =>
    intro x
    obtain ⟨h1, h2, h3⟩ := ih (min x (g q))
    simp only [loT', List.foldl_cons] at h1 h2 h3 ⊢
    refine ⟨by omega, fun t ht => ?_, ?_⟩
    · rcases List.mem_cons.1 ht with rfl | ht
      · omega
      · exact h2 t ht
    · rcases h3 with h3 | ⟨t, ht, h4⟩
      · rw [h3]
        by_cases hx : x ≤ g q
        · left; omega
        · right; exact ⟨q, by simp, by omega⟩
      · right; exact ⟨t, by simp [ht], h4⟩
theorem hiT'_ok (g : TrR → Int) (T : List TrR) : ∀ x, x ≤ hiT' g x T ∧ (∀ t, t ∈ T → g t ≤ hiT' g x T) ∧ (hiT' g x T = x ∨ ∃ t, t ∈ T ∧ g t = hiT' g x T) := by
  induction T with
  | nil => intro x; simp [hiT']
  | cons q T ih =>
    intro x
    obtain ⟨h1, h2, h3⟩ := ih (max x (g q))
    simp only [hiT', List.foldl_cons] at h1 h2 h3 ⊢
    refine ⟨by omega, fun t ht => ?_, ?_⟩
    · rcases List.mem_cons.1 ht with rfl | ht
      · omega
      · exact h2 t ht
    · rcases h3 with h3 | ⟨t, ht, h4⟩
      · rw [h3]
        by_cases hx : g q ≤ x
        · left; omega
        · right; exact ⟨q, by simp, by omega⟩
      · right; exact ⟨t, by simp [ht], h4⟩
/-- the least and the greatest of all truths, from the first one -/
theorem loT_at (g : Tru → Int) {T : List Tru} {t0 : Tru} (h : T[0]? = some t0) : (∀ t, t ∈ T → loT g (g t0) T ≤ g t) ∧ ∃ t, t ∈ T ∧ g t = loT g (g t0) T := by
  obtain ⟨_, h2, h3⟩ := loT_ok g T (g t0)
  exact ⟨h2, h3.elim (fun h3 => ⟨t0, List.mem_of_getElem? h, h3.symm⟩) id⟩
theorem hiT_at (g : Tru → Int) {T : List Tru} {t0 : Tru} (h : T[0]? = some t0) : (∀ t, t ∈ T → g t ≤ hiT g (g t0) T) ∧ ∃ t, t ∈ T ∧ g t = hiT g (g t0) T := by
  obtain ⟨_, h2, h3⟩ := hiT_ok g T (g t0)
  exact ⟨h2, h3.elim (fun h3 => ⟨t0, List.mem_of_getElem? h, h3.symm⟩) id⟩
theorem loT'_at (g : TrR → Int) {T : List TrR} {t0 : TrR} (h : T[0]? = some t0) : (∀ t, t ∈ T → loT' g (g t0) T ≤ g t) ∧ ∃ t, t ∈ T ∧ g t = loT' g (g t0) T := by
  obtain ⟨_, h2, h3⟩ := loT'_ok g T (g t0)
  exact ⟨h2, h3.elim (fun h3 => ⟨t0, List.mem_of_getElem? h, h3.symm⟩) id⟩
theorem hiT'_at (g : TrR → Int) {T : List TrR} {t0 : TrR} (h : T[0]? = some t0) : (∀ t, t ∈ T → g t ≤ hiT' g (g t0) T) ∧ ∃ t, t ∈ T ∧ g t = hiT' g (g t0) T := by
  obtain ⟨_, h2, h3⟩ := hiT'_ok g T (g t0)
  exact ⟨h2, h3.elim (fun h3 => ⟨t0, List.mem_of_getElem? h, h3.symm⟩) id⟩

section
variable {o : Ob} (ho : o.Ok) {t0 : Tru} (h0 : (tt o o.q)[0]? = some t0) {r0 : TrR} (h1 : (rt o o.q)[0]? = some r0)
include ho h0 h1
theorem comes_lo : loT (·.mn) t0.mn (tt o o.q) = dLo o r0 := by
  obtain ⟨a1, t, ht, a2⟩ := loT_at (·.mn) h0
  obtain ⟨b1, r, hr, b2⟩ := loT'_at (fun t => t.lo + t.n o.c) h1
  apply Int.le_antisymm
  · obtain ⟨w, fr, hw, hf, hle, rfl⟩ := mem_rt.1 hr
    have := a1 _ ((mem_tt2 ho).2 ⟨w, fr, _, hw, hf, Int.le_refl _, hle, rfl⟩)
    simp only [dLo]; rw [← b2]; simpa [Ob.rr, TrR.n] using this
  · obtain ⟨w, fr, d, hw, hf, hl, hh, rfl⟩ := (mem_tt2 ho).1 ht
    have := b1 _ (mem_rt.2 ⟨w, fr, hw, hf, by omega, rfl⟩)
    simp only [dLo] at this ⊢; rw [← a2]; simp only [Ob.rr, TrR.n] at this ⊢; omega
theorem comes_hi : hiT (·.mn) t0.mn (tt o o.q) = dHi o r0 := by
  obtain ⟨a1, t, ht, a2⟩ := hiT_at (·.mn) h0
  obtain ⟨b1, r, hr, b2⟩ := hiT'_at (fun t => t.hi + t.n o.c) h1
  apply Int.le_antisymm
  · obtain ⟨w, fr, d, hw, hf, hl, hh, rfl⟩ := (mem_tt2 ho).1 ht
    have := b1 _ (mem_rt.2 ⟨w, fr, hw, hf, by omega, rfl⟩)
    simp only [dHi] at this ⊢; rw [← a2]; simp only [Ob.rr, TrR.n] at this ⊢; omega
  · obtain ⟨w, fr, hw, hf, hle, rfl⟩ := mem_rt.1 hr
    have := a1 _ ((mem_tt2 ho).2 ⟨w, fr, _, hw, hf, hle, Int.le_refl _, rfl⟩)
    simp only [dHi]; rw [← b2]; simpa [Ob.rr, TrR.n] using this
theorem rough_lo : loT (·.r) t0.r (tt o o.q) = loT' (·.w) r0.w (rt o o.q) := by
  obtain ⟨a1, t, ht, a2⟩ := loT_at (·.r) h0
  obtain ⟨b1, r, hr, b2⟩ := loT'_at (·.w) h1
  apply Int.le_antisymm
  · obtain ⟨w, fr, hw, hf, hle, rfl⟩ := mem_rt.1 hr
    rw [← b2]; exact a1 _ ((mem_tt2 ho).2 ⟨w, fr, _, hw, hf, Int.le_refl _, hle, rfl⟩)
  · obtain ⟨w, fr, d, hw, hf, hl, hh, rfl⟩ := (mem_tt2 ho).1 ht
    rw [← a2]; exact b1 _ (mem_rt.2 ⟨w, fr, hw, hf, by omega, rfl⟩)
theorem rough_hi : hiT (·.r) t0.r (tt o o.q) = hiT' (·.w) r0.w (rt o o.q) := by
  obtain ⟨a1, t, ht, a2⟩ := hiT_at (·.r) h0
  obtain ⟨b1, r, hr, b2⟩ := hiT'_at (·.w) h1
  apply Int.le_antisymm
  · obtain ⟨w, fr, d, hw, hf, hl, hh, rfl⟩ := (mem_tt2 ho).1 ht
    rw [← a2]; exact b1 _ (mem_rt.2 ⟨w, fr, hw, hf, by omega, rfl⟩)
  · obtain ⟨w, fr, hw, hf, hle, rfl⟩ := mem_rt.1 hr
    rw [← b2]; exact a1 _ ((mem_tt2 ho).2 ⟨w, fr, _, hw, hf, Int.le_refl _, hle, rfl⟩)
theorem late_iff : 0 < loT (lateT o) (lateT o t0) (tt o o.q) ↔ o.due < dLo o r0 := by
  rw [← comes_lo ho h0 h1]
  obtain ⟨a1, t, ht, a2⟩ := loT_at (·.mn) h0
  obtain ⟨b1, r, hr, b2⟩ := loT_at (lateT o) h0
  rw [← a2, ← b2]
  have h3 := a1 _ hr
  have h4 := b1 _ ht
  rw [← a2] at h3
  rw [← b2] at h4
  simp only [lateT] at h4 ⊢
  omega
theorem set_frost : (setW (tt o o.q) = 1 ∧ frost o r0 = 0) ∨ (setW (tt o o.q) = 2 ∧ frost o r0 = 2) ∨ (setW (tt o o.q) = 3 ∧ frost o r0 = 1) := by
  obtain ⟨a1, r, hr, a2⟩ := loT'_at (·.fr) h1
  obtain ⟨b1, s, hs, b2⟩ := hiT'_at (·.fr) h1
  have hany : ∀ fr, (fr = 0 ∨ fr = 1) → ((tt o o.q).any (fun t => t.w == fr) = true ↔ ∃ t, t ∈ rt o o.q ∧ t.fr = fr) := by
    intro fr hfr
    rw [List.any_eq_true]
    constructor
    · rintro ⟨t, ht, h⟩
      obtain ⟨w, fr', d, hw, hf, hl, hh, rfl⟩ := (mem_tt2 ho).1 ht
      have : fr' = fr := by simpa using h
      subst this
      exact ⟨_, mem_rt.2 ⟨w, fr', hw, hf, by omega, rfl⟩, rfl⟩
    · rintro ⟨t, ht, rfl⟩
      obtain ⟨w, fr, hw, hf, hle, rfl⟩ := mem_rt.1 ht
      exact ⟨_, (mem_tt2 ho).2 ⟨w, fr, _, hw, hf, Int.le_refl _, hle, rfl⟩, by simp [Ob.rr]⟩
  have e0 := hany 0 (.inl rfl)
  have e1 := hany 1 (.inr rfl)
  have hr01 := (rt_bd ho hr).2.1
  have hs01 := (rt_bd ho hs).2.1
  simp only [frost, setW]
  rw [← a2, ← b2]
  have hrs : r.fr ≤ s.fr := by have := a1 _ hs; rw [← a2] at this; exact this
  cases c0 : (tt o o.q).any (fun t => t.w == 0) with
  | true =>
    obtain ⟨t, ht, htf⟩ := e0.1 c0
    have hr0 : r.fr = 0 := by have := a1 _ ht; rw [← a2, htf] at this; omega
    cases c1 : (tt o o.q).any (fun t => t.w == 1) with
    | true =>
      obtain ⟨t', ht', htf'⟩ := e1.1 c1
      have hs1 : s.fr = 1 := by have := b1 _ ht'; rw [← b2, htf'] at this; omega
      right; right; simp [hr0, hs1]
    | false =>
      have hs0 : s.fr = 0 := by
        rcases hs01 with h | h
        · exact h
        · have := e1.2 ⟨s, hs, h⟩; rw [c1] at this; cases this
      left; simp [hr0, hs0]
  | false =>
    have hr1 : r.fr = 1 := by
      rcases hr01 with h | h
      · have := e0.2 ⟨r, hr, h⟩; rw [c0] at this; cases this
      · exact h
    have hs1 : s.fr = 1 := by omega
    have c1 := e1.2 ⟨s, hs, hs1⟩
    right; left; simp [hr1, hs1, c1]
end
end Av
end

section
/- The contract of TopWeather. -/
set_option linter.unusedSimpArgs false
set_option linter.unusedVariables false
set_option maxRecDepth 8000
namespace Av
open Go (IntKind BinOp UnOp)

theorem wrongL_len {can : List Int → Bool} {N : Nat} : ∀ d l l', chooseP can N d l = some l' → l'.length = l.length + d := by
  intro d
  induction d with
  | zero => intro l l' h; simp only [chooseP] at h; split at h <;> simp at h; subst h; rfl
  | succ d ih =>
    intro l l' h
    simp only [chooseP] at h
    obtain ⟨n, _, hn⟩ := List.exists_of_findSome?_eq_some h
    split at hn
    · have := ih _ _ hn; simp at this; omega
    · cases hn
theorem wrongL_le (can : List Int → Bool) (N : Nat) : (wrongL can N).length ≤ N := by
  unfold wrongL wrongP
  split
  · rename_i l h
    obtain ⟨m, hm, h2⟩ := List.exists_of_findSome?_eq_some h
    have := wrongL_len m [] l h2
    have := List.mem_range.1 hm
    simp at this ⊢; simp at *; omega
  · simp
theorem eqk2 (a b c d : Int) : eqk (some 2) (.agg [.int .i64 a, .int .i64 b]) (.agg [.int .i64 c, .int .i64 d]) = some (decide (a = c ∧ b = d)) := eqk_key a b c d
theorem eqkb (a b : Bool) : eqk none (.bool a) (.bool b) = some (decide (a = b)) := by cases a <;> cases b <;> rfl
theorem law_of {k : Nat} {args : List AV} {F : AFn} (hf : pr.fn k = some F) (hn : args.length = F.nargs)
    (hw : wpr (den pr F.body (init args) H.emp) fun o e h' => (o = .normal ∨ o = .ret) ∧ ∃ v, results pr F e h' = some v ∧ v = .bool true) : ∃ h', dcall pr (.fn k [] []) args H.emp = some (.bool true, h') := by
  obtain ⟨v, h', h1, h2⟩ := dcall_of (k := k) (first := []) (cap := []) (args := args) (h := H.emp) (Q := fun v _ => v = .bool true) hf (by simpa using hn) (by simpa using hw)
  subst h2
  exact ⟨h', h1⟩
theorem law3 (b : Cbk) (hb : b.fit) (n : Int) : ∃ h', dcall pr (.fn 3 [] []) [b.v, .int .i64 n] H.emp = some (.bool true, h') := by
  have h4 := k4 b hb
  refine law_of fn3 rfl ?_
  cases hok : b.ok with
  | false =>
    rw [hok] at h4
    simp [g3_macadamtop_TopWeather, g3_macadamtop_TopWeather_c, h4, k6, results, rdRess, rdRes]
  | true =>
  rw [hok] at h4
  have hok' := hok
  simp only [Cbk.ok, Bool.and_eq_true, decide_eq_true_eq] at hok'
  obtain ⟨⟨⟨⟨⟨⟨l1, _⟩, l3⟩, _⟩, _⟩, _⟩, _⟩ := hok'
  obtain ⟨x, l, hx⟩ : ∃ x l, b.ss = x :: l := by
    cases hss : b.ss with
    | nil => rw [hss] at l1; simp at l1
    | cons x l => exact ⟨x, l, rfl⟩
  have hb1 : (1 : Int) ≤ b.ss.length ∧ (b.ss.length : Int) ≤ 3 := by omega
  have hb2 : ¬ (4 : Int) < b.cs.length := by omega
  have h7 := k7 b hb hok hx
  have ho := one_ok hok hx
  have hq4 : (b.one x).q.length ≤ 4 := by simp [Cbk.one]; omega
  generalize hO : b.one x = o at h7 ho hq4
  have h8 := k8 o ho
  have h4' := k4 o.cb (Ob.fit ho)
  rw [ho.cb hq4] at h4'
  have h9 := k9 o ho
  have h10 := k10 o ho hq4
  have h11 := k11 o ho
  have h12 := k12 o ho hq4
  have h13 := k13 o ho
  rw [← is_so ho] at h11
  rw [← can_eq ho] at h13
  have hwl := wrongL_le (canC o) o.q.length
  have h14 := k14 (wrongL (canC o) o.q.length) (wrongL (canC o) o.q.length) (by omega)
  have hq : ∀ a : Bool, eqk none (.bool a) (.bool a) = some true := fun a => by rw [eqkb]; simp
  cases his : o.is with
  | false =>
    rw [his] at h10 h11
    simp [g3_macadamtop_TopWeather, g3_macadamtop_TopWeather_c, h4, k5, hb1, hb2, h7, h8, h4', h9, h10, h11, h12, h13, h14, hq, k6, results, rdRess, rdRes]
  | true =>
    rw [his] at h10 h11
    have hT : tt o o.q ≠ [] := by simpa [Ob.is] using his
    have hR := (tt_rt ho o.q).1 hT
    obtain ⟨t0, h0⟩ : ∃ t0, (tt o o.q)[0]? = some t0 := by
      cases hh : tt o o.q with
      | nil => exact absurd hh hT
      | cons t l => exact ⟨t, rfl⟩
    obtain ⟨r0, h1⟩ : ∃ r0, (rt o o.q)[0]? = some r0 := by
      cases hh : rt o o.q with
      | nil => exact absurd hh hR
      | cons t l => exact ⟨t, rfl⟩
    have h15 := k15 o ho hq4 t0 h0
    have h16 := k16 o ho r0 h1
    rw [comes_lo ho h0 h1, comes_hi ho h0 h1] at h15
    have h17 := k17 o ho hq4 t0 h0
    have h18 := k18 o ho r0 h1
    rw [rough_lo ho h0 h1, rough_hi ho h0 h1] at h17
    have h19 := k19 o ho hq4 hT
    have h20 := k20 o ho r0 h1
    have h21 := k21 o ho hq4 t0 h0
    have h22 := k22 o ho r0 h1
    have hE : (if 0 < loT (lateT o) (lateT o t0) (tt o o.q) then (0 : Int) else 4) = (if o.due < dLo o r0 then 0 else 4) := by
      by_cases hd : o.due < dLo o r0
      · rw [if_pos hd, if_pos ((late_iff ho h0 h1).2 hd)]
      · rw [if_neg hd, if_neg (fun h => hd ((late_iff ho h0 h1).1 h))]
    rw [hE] at h21
    have hwb := wrapI_bd n (m := 70) (by omega)
    have h23 := k23 n 70 (by omega)
    generalize wrapI n 70 = rd at hwb h23
    have h24 := k24 o ho hq4 hT rd (by omega)
    have h25 := k25 o ho hq4 hR rd (by omega)
    rw [← is_so (more_ok ho hq4 (by omega))] at h25
    have hset := set_frost ho h0 h1
    generalize (o.more rd).is = fits at h24 h25
    generalize (if o.due < dLo o r0 then (0 : Int) else 4) = g at h21 h22
    generalize setW (tt o o.q) = set at h19 hset
    generalize frost o r0 = frost at h20 hset
    generalize dLo o r0 = x1 at h15 h16
    generalize dHi o r0 = x2 at h15 h16
    generalize loT' (·.w) r0.w (rt o o.q) = x3 at h17 h18
    generalize hiT' (·.w) r0.w (rt o o.q) = x4 at h17 h18
    simp [g3_macadamtop_TopWeather, g3_macadamtop_TopWeather_c, h4, k5, hb1, hb2, h7, h8, h4', h9, h10, h11, h12, h13, h14, hq, k6, eqk2, h15, h16, h17, h18, h19, h20, h21, h22, h23, h24, h25]
    rcases hset with ⟨rfl, rfl⟩ | ⟨rfl, rfl⟩ | ⟨rfl, rfl⟩
    all_goals simp [k5, hq, k6, results, rdRess, rdRes]
end Av
end

section
/- TopWeather returns true for every input, and its input reads as it did: no condition. -/
namespace Go.Proofs.YtnlflblfonkapaaGreatDoor.topWeatherProof
open Go Go.Proofs Go.Proofs.YtnlflblfonkapaaGreatDoor Go.ChangeShapes Go.WideShapes Go.ChangeAt Go.RowKit Av
set_option linter.constructorNameAsVariable false
set_option linter.unusedVariables false
set_option maxRecDepth 20000

theorem contract (H : Type) (enc : TypeId × Value → H) (W : World) (base : Nat) (args : Array Value) (ds gs : List (DataW H)) (before : List MemPlace)
    (hval : ∀ (j : Nat) t v, Tryz.f3.params[j]? = some t → args[j]? = some v → Value.okWide Tryz.prog W .any base t v)
    (hW : DataW.Whole enc Tryz.prog Tryz.f3.params.toList Rows.topWeatherSpec.vars false W args.toList ds gs before) (hL : Globs W) :
    Calls Tryz.prog 3 args W fun e W' => ∃ v, e = .returned v ∧ Rows.topWeatherSpec.post enc Tryz.prog Tryz.f3 false true false false W args v W' := by
  have hW' := hW
  have hlt := fun p hp => hW.lt p hp
  obtain ⟨p, q, hA0, hV, rfl, hfz, hnd⟩ := hW
  have hA : DataW.TrodAll enc Tryz.prog W 0 (fun _ => true) true Tryz.f3.params.toList args.toList ds p := hA0
  rw [Tryz.params3] at hA hval
  obtain ⟨v0, vs0, d0, ds0, p0, q0, hargs, rfl, rfl, h0, r0⟩ := trodAll_cons hA
  obtain ⟨v1, vs1, d1, ds1, p1, q1, rfl, rfl, rfl, h1, r1⟩ := trodAll_cons r0
  obtain ⟨rfl, rfl, rfl⟩ := trodAll_nil r1
  obtain rfl : args = #[v0, v1] := by cases args; simp_all
  obtain ⟨rfl, rfl⟩ := trodVars_none hV
  obtain ⟨b, hb, hVR0⟩ := book_open (hval 0 26 v0 rfl rfl) h0
  obtain ⟨n1, rfl, rfl, rfl, wf1⟩ := open_int zu3 (hval 1 3 v1 rfl rfl) h1
  obtain ⟨h', hx⟩ := law3 b hb n1
  refine (law_ok (start_ok hL) (by omega) hx (.cons hVR0 (.cons (.int _ _) .nil))).mono fun e W' ⟨he, hg, hsame⟩ => ?_
  subst he
  simp only [List.append_nil, List.nil_append] at hW' hlt
  have hq : ∀ (i : MemPlace), i ∈ (p0 ++ ([] ++ [])) → i.block < W.heap.size := fun i hi => hlt i (by simpa using hi)
  have harg : ∀ sp : Nat → Bool, (∀ p ∈ (p0 ++ ([] ++ [])), sp p.block = true) → DataW.TrodAll enc Tryz.prog W' 0 sp true [26, 3] [v0, .int .i64 n1] [d0, .lit (.int .i64 n1)] (p0 ++ ([] ++ [])) := fun sp hsp =>
    (trodAll_cons_mk (trod_stay1 rec26 row26 h0 hsame (fun p hp => hq p (by simp [hp])) fun p hp => hsp p (by simp [hp])) (trodAll_cons_mk (shut_int zu3 wf1) trodAll_mk0))
  exact ⟨_, rfl, post_of_same (pa := (p0 ++ ([] ++ []))) (pv := []) hW' (fun _ _ _ => trodAll_cons_mk (shut_bool Tryz.underlying4 _) trodAll_mk0) (fun sp hsp => harg sp (by simpa using hsp)) (fun _ _ => rfl) (by simp)
    (hg.frame _) hg.2.1 (ok_one (by kernel_rfl) rfl (okWide_bool_mk Tryz.underlying4 _))⟩

theorem met (os : Os) : laidMetH Tryz.prog Rows.topWeatherRow.laid ((laidWorld os).forCall (fun _ _ => 0) ⟨#[], #[bookZ, .int .i64 0], []⟩).memory :=
  laidMetH_of_parts3 (fuel := 8) (laidMet_of_run' 8 (by kernel_rfl) (by kernel_rfl)) (by kernel_rfl) (by kernel_rfl)
theorem reads (os : Os) {H : Type} (enc : TypeId × Value → H) : ∃ places, DataW.whole enc Tryz.prog ((laidWorld os).forCall (fun _ _ => 0) ⟨#[], #[bookZ, .int .i64 0], []⟩).memory Tryz.f3.params.toList Rows.topWeatherSpec.vars false (#[bookZ, .int .i64 0] : Array Value).toList 8 = some ([bookD, .lit (.int .i64 0)], [], places) :=
  ⟨[], by kernel_rfl⟩
set_option maxRecDepth 100000 in
theorem lifted (os : Os) (started : os.Started) (H : Type) (enc : TypeId × Value → H) (F : Stop.Interp) :
    ReturnsInHanded {} Tryz.checked os 3 .any ((OpenSpec.ofChange Rows.topWeatherSpec).preRow enc Tryz.prog Tryz.f3 Rows.topWeatherRow.domain false Rows.topWeatherRow.laid) (((OpenSpec.ofChange Rows.topWeatherSpec).at F).post enc Tryz.prog Tryz.f3 false true false false) := by
  obtain ⟨places, hx⟩ := reads os enc
  refine returnsInHanded_of_row (C := Tryz.checked) (s := OpenSpec.ofChange Rows.topWeatherSpec) ownK started (by kernel_rfl) Tryz.func3
    (witness_row_at (enc := enc) (C := Tryz.checked) false (laidWorld os) #[bookZ, .int .i64 0] rfl (by kernel_rfl) (by kernel_rfl) (by kernel_rfl)
      (OpenSpec.preRow_of_cond 8 hx (by kernel_rfl) (fun k hk => by cases hk) (by kernel_rfl) (met os))) ?_
  intro W base args ds gs before hval hW _ _ _ hL _ _
  exact contract H enc W base args ds gs before hval hW (globs_of hL)
theorem said : Rows.TopWeatherSaid :=
  OpenClaim.holds_of_cond 3 Tryz.f3 rfl rfl rfl rfl rfl rfl rfl ⟨rfl, rfl, rfl, rfl, rfl⟩ rfl rfl rfl rfl rfl (by kernel_rfl) Tryz.func3 (by kernel_rfl)
    (of_decide_eq_true (by kernel_rfl)) (by unfold Func.isWrapper; first | (rw [if_pos (by decide +kernel)]; kernel_rfl) | (rw [if_neg (by decide +kernel)]; exact ⟨rfl, rfl⟩))
    (fun os started H enc _ F => by rw [OpenClaim.pre_eq_preRow]; exact lifted os started H enc F)
theorem plain (f : FuncId) (fn : Func) (hf : Tryz.pinned.checked.prog.funcNamed "macadam/macadamtop.TopWeather" = some f) (hfn : Tryz.pinned.checked.prog.funcs[f]? = some fn) :
    false = Tryz.pinned.checked.prog.looks [] ∧ ∀ (j : Nat) t, fn.params[j]? = some t → Tryz.pinned.checked.prog.wantsStandIn t = false := by
  obtain rfl : f = 3 := Option.some.inj ((show Tryz.prog.funcNamed "macadam/macadamtop.TopWeather" = some 3 by kernel_rfl).symm.trans hf) |>.symm
  obtain rfl : fn = Tryz.f3 := (Option.some.inj (Tryz.func3.symm.trans hfn)).symm
  refine ⟨by kernel_rfl, fun j t ht => ?_⟩
  rw [Tryz.params3] at ht
  have hm : t ∈ [26, 3] := by simpa using Array.mem_of_getElem? ht
  simp only [List.mem_cons, List.not_mem_nil, or_false] at hm
  rcases hm with rfl | rfl
  · exact want26
  · exact want3
theorem card : Rows.TopWeatherCardSaid :=
  Claim7.holds_tied_plain_at .later [] _ _ _ _ said (fun _ h => by cases h) (by kernel_rfl) (fun _ h => by cases h) topWeather_row_tie rfl ⟨rfl, rfl⟩ (by kernel_rfl) rfl plain (by kernel_rfl)
end Go.Proofs.YtnlflblfonkapaaGreatDoor.topWeatherProof
namespace Go.Proofs.YtnlflblfonkapaaGreatDoor
theorem topWeather_card : Rows.TopWeatherCardSaid := topWeatherProof.card
end Go.Proofs.YtnlflblfonkapaaGreatDoor
end
