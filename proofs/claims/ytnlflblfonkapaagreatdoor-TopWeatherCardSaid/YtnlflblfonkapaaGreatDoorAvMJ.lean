/- Contracts of the layer of claims, second part: the conditions stand in each statement. -/
import Derived.Test.YtnlflblfonkapaaGreatDoorAvMI
set_option linter.all false
set_option linter.unusedSectionVars false
set_option linter.unusedVariables false
set_option linter.unusedSimpArgs false
set_option linter.unnecessarySimpa false
section
/- All truths of a claim's book are yielded; the book is opened. -/
set_option linter.unusedSimpArgs false
set_option linter.unusedVariables false
set_option maxRecDepth 8000
namespace Av
open Go (IntKind BinOp UnOp)

abbrev wholeV (bc : List AV) : AV := .fn 91 [] [.cptr bc]
theorem k71 (o : Ob) (Q : List (Int × Int)) (kc : SK) (m : Nat) (ts : AV) (hts : ts.flat = true) (h : H) : dcall pr (.fn 71 [] []) [.agg (obc o Q kc m ts)] h = some (wholeV (obc o Q kc m ts), h) := by
  have : ∃ w h', dcall pr (.fn 71 [] []) [.agg (obc o Q kc m ts)] h = some (w, h') ∧ (w = wholeV (obc o Q kc m ts) ∧ h' = h) := by
    refine dcall_of fn71 rfl ?_
    simp [g71_claim_book_whole, g71_claim_book_whole_c, hts, results, rdRess, rdRes]
  obtain ⟨w, h', h1, rfl, rfl⟩ := this
  exact h1
theorem k91 (o : Ob) (ho : o.Ok) (Q : List (Int × Int)) (hQ : QOk Q) (hl : Q.length ≤ 5) (kc : SK) (m : Nat) (ts : AV) (hts : ts.flat = true) (n0 : Nat) (hm : m < n0) :
    Iter (wholeV (obc o Q kc m ts)) n0 (tl o Q) (Mem m Q) (fun j => j = m) := by
  intro U Ks yv hyv hyf hKM hK hU hy h hn hu hM
  have hst : 0 < o.stops := by have := ho.s; simp only [Ob.stops]; omega
  let dv := driveV (obc o Q kc m ts) yv h.n
  let G : List AV → H → Prop := fun d h' => U d h' ∧ Mem m Q h' ∧ h'.get h.n = some (.cells [dv]) ∧ h.n + 1 ≤ h'.n ∧ ∀ j, j < h.n → ¬ Ks j → j ≠ m → h.get j ≠ some .tok → h'.get j = h.get j
  have hG1 : ∀ d h', G d h' → Mem m Q h' ∧ h'.get h.n = some (.cells [driveV (obc o Q kc m ts) yv h.n]) ∧ h.n < h'.n := fun d h' hg => ⟨hg.2.1, hg.2.2.1, hg.2.2.2.1⟩
  have hGm : ∀ d h1 h2, G d h1 → Mem m Q h2 → h2.n = h1.n → (∀ j, j ≠ m → h2.get j = h1.get j) → G d h2 := by
    rintro d h1 h2 ⟨g1, g2, g3, g4, g5⟩ hm2 hn2 hf
    exact ⟨hU _ _ _ (fun j _ hj => hf j hj) (by omega) g1, hm2, by rw [hf _ (by omega)]; exact g3, by omega, fun j h1' h2' h3' h4' => by rw [hf j h3']; exact g5 j h1' h2' h3' h4'⟩
  have hGy : ∀ d h1 w sl k, w < 2 → sl < o.slows → k < 2 → okm Q (o.mn w sl k) = true → d.length < (tl o Q).length → G d h1 → ∃ h2, dcall pr yv [(o.tr w sl k).v] h1 = some (.bool true, h2) ∧ G (d ++ [(o.tr w sl k).v]) h2 := by
    rintro d h1 w sl k hw hs hk hok hdl ⟨g1, g2, g3, g4, g5⟩
    obtain ⟨h2, a1, a2, a3, a4⟩ := hy _ h1 (o.tr w sl k).v (mem_tl hst hw hs hk hok) hdl (by omega) g1
    have hKn : ¬ Ks h.n := fun hk => by have := hK _ hk; omega
    have hKm : ¬ Ks m := fun hk => hKM _ hk rfl
    refine ⟨h2, a1, a2, ?_, ?_, by omega, fun j h1' h2' h3' h4' => ?_⟩
    · obtain ⟨q1, S, q2, q3⟩ := g2
      exact ⟨by omega, S, by rw [a4 m q1 hKm (by rw [q2]; simp)]; exact q2, q3⟩
    · rw [a4 _ (by omega) hKn (by rw [g3]; simp)]; exact g3
    · have := g5 j h1' h2' h3' h4'
      rw [a4 j (by omega) h2' (by rw [this]; exact h4')]; exact this
  suffices hh : ∃ w h', dcall pr (wholeV (obc o Q kc m ts)) [yv] h = some (w, h') ∧ G (tl o Q) h' by
    obtain ⟨w, h', h1, h2⟩ := hh
    exact ⟨h', w, h1, h2.1, h2.2.1, by have := h2.2.2.2.1; omega, fun j hj hk hm ht => h2.2.2.2.2 j hj hk hm ht⟩
  refine dcall_of fn91 rfl ?_
  have hmn : m ≠ h.n := by have := hM.1; omega
  have hyc : yv.cells = [yv] := by cases yv <;> first | rfl | cases hyf
  simp [g91_claim_book_whole_1, g91_claim_book_whole_1_c, hyv, hyf, hyc]
  refine wpr_oblock (wpr_mono (l91_0 o ho Q hQ hl kc m ts hts yv hyv h.n G hG1 hGm hGy _ _ rfl rfl rfl ⟨hU _ h _ (fun j hj _ => ?_) ?_ hu, hM.of (by simp) (by simp [hmn]), by simp [dv], by simp, fun j hj hk hm2 ht => ?_⟩) ?_)
  · simp [show j ≠ h.n by omega]
  · simp
  · simp [show j ≠ h.n by omega]
  · rintro o1 e1 h1 ⟨rfl, hg⟩
    simp [onB, results, rdRess, hg]
end Av
end

section
/- A claim's book is opened. -/
set_option linter.unusedSimpArgs false
set_option linter.unusedVariables false
set_option maxRecDepth 8000
namespace Av
open Go (IntKind BinOp UnOp)

theorem k90 (L : List Int) (hL : (L.length : Int) ≤ 9223372036854775807) (n : Int) : ∃ w, icall pr (.fn 90 [] []) [.sl (iv L) .shut, .int .i64 n] = some w ∧ ∃ r : Int, w = .int .i64 r ∧ (0 ≤ r ↔ n ∈ L) := by
  refine icall_ex fn90 rfl rfl (by simp) (by rintro w ⟨r, rfl, _⟩; rfl) ?_
  simp [g90_slices_Index, g90_slices_Index_c]
  refine wpr_seq (wpr_oblock (loop_up pr (fun k e h => e 0 = .sl (iv L) .shut ∧ e 1 = .int .i64 n ∧ e 7 = .int .i64 L.length ∧ e 8 = .int .i64 k ∧ ∀ j, j < k → L[j]? ≠ some n) L.length ?_ ?_ 0 _ _ (by omega) ⟨rfl, rfl, rfl, rfl, by omega⟩))
  · rintro k e h0 hk ⟨e0, e1, e7, e8, hno⟩
    have hw : IntKind.wrap .i64 ((k : Int) + 1) = k + 1 := wrap_id (by omega) (by omega)
    by_cases hq : n = L[k]
    · have hin : L[k] ∈ L := List.getElem_mem _
      simp [g90_slices_Index_l0, e0, e1, e7, e8, hk, hw, ← hq, onB, onN, results, rdRess, rdRes]
      rw [hq]; exact hin
    · simp [g90_slices_Index_l0, e0, e1, e7, e8, hk, hw, hq]
      intro j hj
      by_cases h1 : j < k
      · simpa using hno j h1
      · have : j = k := by omega
        subst this; rw [List.getElem?_eq_getElem hk]; simpa using fun h => hq h.symm
  · rintro e h0 ⟨e0, e1, e7, e8, hno⟩
    simp [g90_slices_Index_l0, e0, e1, e7, e8, onB, onN, results, rdRess, rdRes]
    intro hin
    obtain ⟨j, hj, hq⟩ := List.mem_iff_getElem.1 hin
    exact hno j hj (by rw [List.getElem?_eq_getElem hj, hq])
theorem k70 (L : List Int) (hL : (L.length : Int) ≤ 9223372036854775807) (n : Int) : icall pr (.fn 70 [] []) [.sl (iv L) .shut, .int .i64 n] = some (.bool (decide (n ∈ L))) := by
  refine icall_fn fn70 rfl rfl (by simp) rfl ?_
  obtain ⟨w, h1, r, rfl, h2⟩ := k90 L hL n
  simp [g70_slices_Contains, g70_slices_Contains_c, results, rdRess, rdRes, h1, h2]

/-- the clocks that are not left out -/
def leftQ (L : List Int) (Q : List (Int × Int)) : Nat → List (Int × Int)
  | 0 => []
  | k + 1 => leftQ L Q k ++ (match Q[k]? with | some p => if (k : Int) ∈ L then [] else [p] | none => [])
theorem leftQ_sub (L : List Int) (Q : List (Int × Int)) : ∀ k, (leftQ L Q k).length ≤ k ∧ ∀ p ∈ leftQ L Q k, p ∈ Q
  | 0 => by simp [leftQ]
  | k + 1 => by
    obtain ⟨h1, h2⟩ := leftQ_sub L Q k
    simp only [leftQ]
    cases hq : Q[k]? with
    | none => simp; exact ⟨by omega, fun a b hab => h2 _ hab⟩
    | some p =>
      have hp := List.mem_of_getElem? hq
      by_cases h : (k : Int) ∈ L
      · simp [h]; exact ⟨by omega, fun a b hab => h2 _ hab⟩
      · simp [h]
        refine ⟨h1, fun a b hab => ?_⟩
        rcases hab with hab | rfl
        · exact h2 _ hab
        · exact hp
def Ob.left (o : Ob) (L : List Int) : List (Int × Int) := Av.leftQ L o.q o.q.length
theorem Ob.Ok.left {o : Ob} (h : o.Ok) (L : List Int) : QOk (o.left L) ∧ (o.left L).length ≤ 5 := by
  obtain ⟨h1, h2⟩ := leftQ_sub L o.q o.q.length
  exact ⟨fun p hp => h.q p (h2 p hp), by have := h.len; unfold Ob.left; omega⟩
/-- an opened book, as it is returned -/
abbrev opc (o : Ob) (Q : List (Int × Int)) (ks vs : List AV) : List AV := [.sl (svs [o.st]) .shut, .int .i64 3, .int .i64 0, .int .i64 o.c, .int .i64 0, .sl (cvs (Q.map ck)) .shut, .int .i64 o.rate, .mv ks vs, .sl (tl o Q) .shut]
theorem l42_0 (o : Ob) (ho : o.Ok) (L : List Int) (hL : (L.length : Int) ≤ 9223372036854775807) (e : Env) (h : H) (S : List (AV × AV))
    (e1 : e 1 = .sl (iv L) .shut) (e5 : e 5 = .ptr 1 0) (e17 : e 17 = .sl (cvs (o.q.map ck)) .shut) (e18 : e 18 = .int .i64 o.q.length) (e19 : e 19 = .int .i64 0)
    (hn : h.n = 2) (hm : h.get 0 = some (.mp S)) (hg : h.get 1 = some (.cells (obc o [] .exact 0 (.sl [] .exact)))) :
    wpr (den pr (.loop g42_claim_opened_l0) e h) fun oo e' h' => oo = .exit 0 ∧ e' 5 = e 5 ∧ e' 4 = e 4 ∧ e' 8 = e 8 ∧ 2 ≤ h'.n ∧ h'.get 0 = some (.mp S) ∧ ∃ kc, h'.get 1 = some (.cells (obc o (o.left L) kc 0 (.sl [] .exact))) := by
  have hlen := ho.len
  refine loop_up pr (fun k e' h' => e' 1 = e 1 ∧ e' 5 = e 5 ∧ e' 4 = e 4 ∧ e' 8 = e 8 ∧ e' 17 = e 17 ∧ e' 18 = e 18 ∧ e' 19 = .int .i64 k ∧ 2 ≤ h'.n ∧ h'.get 0 = some (.mp S) ∧ ∃ kc, h'.get 1 = some (.cells (obc o (leftQ L o.q k) kc 0 (.sl [] .exact))) ∧ OpnT h' kc) o.q.length ?_ ?_ 0 _ _ (by omega)
    ⟨rfl, rfl, rfl, rfl, rfl, rfl, e19, by omega, hm, .exact, by simpa [leftQ] using hg, .inl rfl⟩
  · rintro k e' h' hk ⟨p1, p5, p4, p8, p17, p18, p19, hn', hm', kc, hg', ho'⟩
    rw [e1] at p1; rw [e5] at p5; rw [e17] at p17; rw [e18] at p18
    have hw1 : IntKind.wrap .i64 ((k : Int) + 1) = k + 1 := wrap_id (by omega) (by omega)
    have hn1 : 1 < h'.n := by omega
    have hlf := (leftQ_sub L o.q k).1
    have hsucc : leftQ L o.q (k + 1) = leftQ L o.q k ++ (if (k : Int) ∈ L then [] else [o.q[k]]) := by
      simp only [leftQ, List.getElem?_eq_getElem hk]
    by_cases hin : (k : Int) ∈ L
    · rw [if_pos hin, List.append_nil] at hsucc
      simp [g42_claim_opened_l0, p1, p5, p17, p18, p19, hk, hw1, k70 L hL, hin, e1, e5, e17, e18, hm', p4, p8, hn', hsucc, hg']
      exact ho'
    · rw [if_neg hin] at hsucc
      obtain ⟨h2, ha, hn2, hgt, hf⟩ := app_okT (sz := 3) (bytes := 24) (es := cvs ((leftQ L o.q k).map ck)) (new := [(ck o.q[k]).v]) (k2 := .exact) ho' (by simp) (cvs_cell3 _) (by simp) (by simp; omega)
      have ht : ∀ t, kc = .opn t → h'.get t = some .tok := by
        intro t ht
        rcases ho' with rfl | ⟨t', rfl, _, h3⟩
        · cases ht
        · cases ht; exact h3
      have hf0 : h2.get 0 = h'.get 0 := hf 0 (by omega) (fun hh => by have := ht 0 hh; rw [hm'] at this; cases this)
      have hf1 : h2.get 1 = h'.get 1 := hf 1 (by omega) (fun hh => by have := ht 1 hh; rw [hg'] at this; cases this)
      simp [g42_claim_opened_l0, p1, p5, p17, p18, p19, hk, hw1, k70 L hL, hin, e1, e5, e17, e18, p4, p8, hg', hn1, ha, hf0, hf1, hm']
      exact ⟨by omega, .opn h'.n, ⟨by rw [hsucc]; simp [cvs], rfl⟩, OpnT.mk (by simp; omega) (by simp [show h'.n ≠ 1 by omega, hgt])⟩
  · rintro e' h' ⟨p1, p5, p4, p8, p17, p18, p19, hn', hm', kc, hg', ho'⟩
    rw [e18] at p18
    simp [g42_claim_opened_l0, p18, p19]
    exact ⟨p5, p4, p8, hn', hm', kc, hg'⟩

theorem tl_tru {o : Ob} {Q : List (Int × Int)} {v : AV} (h : v ∈ tl o Q) : ∃ t : Tru, v = t.v := by
  simp only [tl, tl3, tl2, List.mem_flatMap, List.mem_range, tl1] at h
  obtain ⟨w, _, s, _, k, _, h⟩ := h
  split at h
  · exact ⟨_, (List.mem_replicate.1 h).2⟩
  · simp at h
theorem flatMap_len {α β : Type} (f : α → List β) (n : Nat) : ∀ (l : List α), (∀ x ∈ l, (f x).length ≤ n) → (l.flatMap f).length ≤ l.length * n
  | [], _ => by simp
  | x :: l, h => by
    have := flatMap_len f n l (fun y hy => h y (by simp [hy]))
    have := h x (by simp)
    simp only [List.flatMap_cons, List.length_append, List.length_cons, Nat.add_mul]; omega
theorem tl_len {o : Ob} (ho : o.Ok) (Q : List (Int × Int)) : (tl o Q).length ≤ 24 := by
  have hs := ho.s
  have ha := ho.az
  have h1 : ∀ w s k, (tl1 o Q w s k).length ≤ 2 := fun w s k => by
    simp only [tl1]; split
    · simp [Ob.stops]; omega
    · simp
  have h2 : ∀ w s, (tl2 o Q w s).length ≤ 4 := fun w s => flatMap_len _ 2 _ (fun k _ => h1 w s k)
  have h3 : ∀ w, (tl3 o Q w).length ≤ 12 := fun w => by
    have := flatMap_len (tl2 o Q w) 4 (List.range o.slows) (fun k _ => h2 w k)
    simp only [List.length_range, Ob.slows] at this
    simp only [tl3, Ob.slows]; omega
  exact flatMap_len _ 12 _ (fun w _ => h3 w)
theorem trus_cell (d : List AV) (h : ∀ v ∈ d, ∃ t : Tru, v = t.v) : d.all (fun v => decide (v.cells.length = 7)) = true := by
  rw [List.all_eq_true]
  intro v hv
  obtain ⟨t, rfl⟩ := h v hv
  simp
theorem trus_clean (d : List AV) (h : ∀ v ∈ d, ∃ t : Tru, v = t.v) : cleans d = true := by
  induction d with
  | nil => rfl
  | cons v d ih =>
    obtain ⟨t, rfl⟩ := h v (by simp)
    have := ih (fun v hv => h v (by simp [hv]))
    simpa [cleans] using this
theorem encK_clean (S : List ((Int × Int) × Bool)) : cleans ((encC S).map fun x => x.1) = true := by
  induction S with
  | nil => rfl
  | cons q S ih => simp only [encC, List.map_cons, List.map_map] at ih ⊢; simpa [cleans] using ih
theorem encV_clean (S : List ((Int × Int) × Bool)) : cleans ((encC S).map fun q => match q.2 with | .sl es k => .sl es .shut | v => v) = true := by
  induction S with
  | nil => rfl
  | cons q S ih => simp only [encC, List.map_cons, List.map_map] at ih ⊢; simpa [cleans] using ih
theorem k42 (o : Ob) (ho : o.Ok) (L : List Int) (hL : (L.length : Int) ≤ 9223372036854775807) :
    ∃ w, icall pr (.fn 42 [] []) [o.cb.v, .sl (iv L) .shut] = some w ∧ ∃ ks vs, w = .agg (opc o (o.left L) ks vs) ∧ cleans ks = true ∧ cleans vs = true := by
  obtain ⟨hQ, hQl⟩ := ho.left L
  have hlen := ho.len
  refine icall_ex fn42 rfl rfl (by simp) (by
    rintro w ⟨ks, vs, rfl, h1, h2⟩
    simp [h1, h2, trus_clean _ (fun v hv => tl_tru hv)]) ?_
  have hs0 : setk 2 (.agg [.int .i64 (-1), .int .i64 (-1)]) (.bool false) [] = some (encC [((-1, -1), false)]) := rfl
  simp [g42_claim_opened, g42_claim_opened_c, hs0, keyLen]
  refine wpr_seq (wpr_oblock (wpr_mono (l42_0 o ho L hL _ _ (encC [((-1, -1), false)]) (by simp) (by simp) (by simp) (by simp) (by simp) (by simp) (by simp) (by simp [cvs])) ?_))
  rintro _ e h ⟨rfl, p5, p4, p8, hn, hm, kc, hg⟩
  simp at p5 p4 p8
  have h71 := k71 o (o.left L) kc 0 (.sl [] .exact) rfl h
  have hn1 : 1 < h.n := by omega
  simp [onB, onN, p5, hg, hn1, h71]
  let U : List AV → H → Prop := fun d h' => ∃ kt, h'.get 1 = some (.cells (obc o (o.left L) kc 0 (.sl d kt))) ∧ (kt = .exact ∨ ∃ t, kt = .opn t ∧ t < h'.n ∧ h.n < t ∧ h'.get t = some .tok) ∧ 2 ≤ h'.n ∧ ∀ v, v ∈ d → ∃ t : Tru, v = t.v
  have hI := k91 o ho (o.left L) hQ hQl kc 0 (.sl [] .exact) rfl (h.n + 1) (by omega)
  refine wpr_seq (wpr_oblock (wpr_mono (range_iter U (fun j => j = 1) hI (by simp) (fun j hj hm => by omega) (fun j hj => by omega) (fun j hj => by omega) (fun h1 h2 hs hn' hM => hM.of hn' (hs 0 rfl)) ?_ ?_ ⟨.exact, hg, .inl rfl, hn, by simp⟩
    ⟨by omega, [((-1, -1), false)], hm, fun q hq => by simp at hq; subst hq; simp⟩) ?_))
  · rintro d h1 h2 hs hn' ⟨kt, g1, g2, g3, g4⟩
    refine ⟨kt, by rw [hs 1 (by omega) (by omega) (by omega)]; exact g1, ?_, by omega, g4⟩
    rcases g2 with rfl | ⟨t, rfl, t1, t2, t3⟩
    · exact .inl rfl
    · exact .inr ⟨t, rfl, by omega, t2, by rw [hs t t1 (by omega) (by omega)]; exact t3⟩
  · intro v hv
    obtain ⟨t, rfl⟩ := tl_tru hv
    refine ⟨_, fun h' => by simp [p8]; rfl, ?_⟩
    rintro d h' hd hn' ⟨kt, g1, g2, g3, g4⟩
    have hln := tl_len ho (o.left L)
    obtain ⟨h2, ha, hn2, hgt, hf⟩ := app_okT (h := h') (sz := 7) (bytes := 56) (es := d) (k := kt) (new := [t.v]) (k2 := .exact) (by
      rcases g2 with rfl | ⟨t', rfl, t1, t2, t3⟩
      · exact .inl rfl
      · exact OpnT.mk t1 t3) (by simp) (trus_cell d g4) (by simp) (by simp; omega)
    have hkt : ∀ j, kt = .opn j → h.n < j ∧ h'.get j = some .tok := by
      rintro j rfl
      rcases g2 with hh | ⟨t', hh, t1, t2, t3⟩
      · cases hh
      · cases hh; exact ⟨t2, t3⟩
    have hf1 : h2.get 1 = h'.get 1 := hf 1 (by omega) (fun hh => by have := (hkt 1 hh).1; omega)
    have hn1' : 1 < h'.n := by omega
    simp [g42_claim_opened_b1, p5, g1, hn1', ha, hf1]
    refine ⟨by omega, ⟨.opn h'.n, by simp, .inr ⟨h'.n, rfl, by simp; omega, by omega, by simp [show h'.n ≠ 1 by omega, hgt]⟩, by simp; omega, fun v hv => ?_⟩, fun j hj hj1 hjt => ?_⟩
    · rcases List.mem_append.1 hv with hv | hv
      · exact g4 v hv
      · exact ⟨t, by simpa using hv⟩
    · rw [if_neg hj1]
      exact hf j hj (fun hh => hjt (hkt j hh).2)
  · rintro _ e' h' ⟨rfl, rfl, ⟨kt, g1, g2, g3, g4⟩, ⟨_, S, hS, _⟩, hn', hf⟩
    have hn1' : 1 < h'.n := by omega
    simp [onB, onN, p5, p4, g1, hn1', results, rdRess, rdRes]
    simp only [hS]
    refine ⟨_, _, rfl, ?_, ?_⟩
    · exact encK_clean _
    · exact encV_clean _
end Av
end

section
/- Contracts of claim: what is told of all truths. -/
set_option linter.unusedSimpArgs false
set_option linter.unusedVariables false
set_option maxRecDepth 8000
namespace Av
open Go (IntKind BinOp UnOp)

/-- all truths, as data -/
def tt (o : Ob) (Q : List (Int × Int)) : List Tru := (List.range 2).flatMap fun w => (List.range o.slows).flatMap fun d => (List.range 2).flatMap fun k => if okm Q (o.mn w d k) then List.replicate o.stops (o.tr w d k) else []
theorem tl_tt (o : Ob) (Q : List (Int × Int)) : tl o Q = (tt o Q).map Tru.v := by
  simp only [tl, tt, List.map_flatMap]
  congr 1; funext w
  simp only [tl3]
  congr 1; funext d
  simp only [tl2]
  congr 1; funext k
  simp only [tl1]
  split <;> simp
theorem tt_len {o : Ob} (ho : o.Ok) (Q : List (Int × Int)) : (tt o Q).length ≤ 24 := by
  have := tl_len ho Q; rw [tl_tt] at this; simpa using this
@[simp] theorem leftQ_nil (Q : List (Int × Int)) : leftQ [] Q Q.length = Q := by
  have : ∀ k, k ≤ Q.length → leftQ [] Q k = Q.take k := by
    intro k
    induction k with
    | zero => intro _; simp [leftQ]
    | succ k ih =>
      intro hk
      simp only [leftQ, ih (by omega), List.getElem?_eq_getElem (show k < Q.length by omega), List.not_mem_nil, if_false]
      rw [List.take_add_one, List.getElem?_eq_getElem (show k < Q.length by omega)]; rfl
  rw [this _ (Nat.le_refl _), List.take_length]
theorem Ob.left_nil (o : Ob) : o.left [] = o.q := Av.leftQ_nil o.q
theorem Ob.Ok.qok {o : Ob} (h : o.Ok) : QOk o.q := h.q
def opk (o : Ob) (ks vs : List AV) : List AV := opc o o.q ks vs
theorem k42n (o : Ob) (ho : o.Ok) : ∃ ks vs, icall pr (.fn 42 [] []) [o.cb.v, .sl [] .shut] = some (.agg (opc o o.q ks vs)) ∧ cleans ks = true ∧ cleans vs = true := by
  obtain ⟨w, h1, ks, vs, rfl, h2, h3⟩ := k42 o ho [] (by simp)
  rw [o.left_nil] at h1
  exact ⟨ks, vs, h1, h2, h3⟩
/-- can a book be true? -/
def Ob.is (o : Ob) : Bool := decide (tt o o.q ≠ [])
theorem tl_pos (o : Ob) (Q : List (Int × Int)) : (0 < (tl o Q).length) = (tt o Q ≠ []) := by
  rw [tl_tt, List.length_map]; apply propext; rw [List.length_pos_iff]
theorem k10 (o : Ob) (ho : o.Ok) (h4 : o.q.length ≤ 4) : icall pr (.fn 10 [] []) [o.cb.v] = some (.tup [.bool o.is, .int .i64 0]) := by
  obtain ⟨ks, vs, h1, h2, h3⟩ := k42n o ho
  have hc := k4 o.cb (Ob.fit ho)
  rw [ho.cb h4] at hc
  have hp := tl_pos o o.q
  refine icall_fn fn10 rfl rfl (by simp) rfl ?_
  simp [g10_claim_Right, g10_claim_Right_c, hc, h1, results, rdRess, rdRes, Ob.is, ← hp]
theorem k53 (o : Ob) (ho : o.Ok) (h4 : o.q.length ≤ 4) (hT : tt o o.q ≠ []) : ∃ ks vs, icall pr (.fn 53 [] []) [o.cb.v, .bool true] = some (.tup [.agg (opc o o.q ks vs), .int .i64 0]) ∧ cleans ks = true ∧ cleans vs = true := by
  obtain ⟨ks, vs, h1, h2, h3⟩ := k42n o ho
  have hc := k4 o.cb (Ob.fit ho)
  rw [ho.cb h4] at hc
  have hp := tl_pos o o.q
  have hz : ¬ (tl o o.q) = [] := by
    intro h; rw [tl_tt, List.map_eq_nil_iff] at h; exact hT h
  refine ⟨ks, vs, ?_, h2, h3⟩
  refine icall_fn fn53 rfl rfl (by simp) (by simp [h2, h3, trus_clean _ (fun v hv => tl_tru hv)]) ?_
  simp [g53_claim_asked, g53_claim_asked_c, hc, h1, results, rdRess, rdRes, hz]

def loT (g : Tru → Int) (x : Int) (T : List Tru) : Int := T.foldl (fun a t => min a (g t)) x
def hiT (g : Tru → Int) (x : Int) (T : List Tru) : Int := T.foldl (fun a t => max a (g t)) x
theorem k55 (o : Ob) (ho : o.Ok) (ks vs : List AV) (hk : cleans ks = true) (hv : cleans vs = true) (f : AV) (hf : f.clean = true) (hff : f.flat = true) (hfe : evt f = some f) (g : Tru → Int) (hg : ∀ t, t ∈ tt o o.q → icall pr f [t.v] = some (.int .i64 (g t)))
    (t0 : Tru) (ht0 : (tt o o.q)[0]? = some t0) : icall pr (.fn 55 [] []) [.agg (opc o o.q ks vs), .agg [f]] = some (.agg [.int .i64 (loT g (g t0) (tt o o.q)), .int .i64 (hiT g (g t0) (tt o o.q))]) := by
  have hlen := tt_len ho o.q
  have htt := tl_tt o o.q
  have hcl := trus_clean (tl o o.q) (fun v hv => tl_tru hv)
  rw [htt] at hcl
  refine icall_fn fn55 rfl rfl (by simp [hk, hv, hf, htt, hcl]) rfl ?_
  have hg0 := hg t0 (List.mem_of_getElem? ht0)
  generalize hT : tt o o.q = T at *
  have hfc : f.cells = [f] := by cases f <;> first | rfl | cases hff
  simp only [Tru.v, Tru.c] at hg0
  simp [g55_claim_book_told, g55_claim_book_told_c, htt, hff, hfc, hfe, ht0, hg0]
  refine wpr_seq (wpr_oblock (loop_up pr (fun k e h => e 3 = .lbox 0 [f] ∧ e 4 = .lbox 0 [.int .i64 0, .int .i64 0] ∧ e 20 = .sl (T.map Tru.v) .shut ∧ e 21 = .int .i64 T.length ∧ e 22 = .int .i64 k ∧
    e 6 = .lbox 0 [.int .i64 (loT g (g t0) (T.take k)), .int .i64 (hiT g (g t0) (T.take k))]) T.length ?_ ?_ 0 _ _ (by omega) ⟨rfl, rfl, rfl, by simp, rfl, by simp [loT, hiT]⟩))
  · rintro k e h hk2 ⟨e3, e4, e20, e21, e22, e6⟩
    have hw : IntKind.wrap .i64 ((k : Int) + 1) = k + 1 := wrap_id (by omega) (by omega)
    have hgk := hg T[k] (List.getElem_mem _)
    simp only [Tru.v, Tru.c] at hgk
    have h1 : loT g (g t0) (T.take (k + 1)) = min (loT g (g t0) (T.take k)) (g T[k]) := by
      rw [List.take_add_one, List.getElem?_eq_getElem hk2]; simp only [loT, Option.toList, List.foldl_append, List.foldl_cons, List.foldl_nil]
    have h2 : hiT g (g t0) (T.take (k + 1)) = max (hiT g (g t0) (T.take k)) (g T[k]) := by
      rw [List.take_add_one, List.getElem?_eq_getElem hk2]; simp only [hiT, Option.toList, List.foldl_append, List.foldl_cons, List.foldl_nil]
    simp [g55_claim_book_told_l0, e3, e4, e20, e21, e22, e6, hk2, hw, hfe, hgk, h1, h2]
  · rintro e h ⟨e3, e4, e20, e21, e22, e6⟩
    rw [List.take_length] at e6
    simp [g55_claim_book_told_l0, e3, e4, e20, e21, e22, e6, onB, onN, results, rdRess, rdRes]

theorem opc_clean (o : Ob) {ks vs : List AV} (hk : cleans ks = true) (hv : cleans vs = true) : cleans (opc o o.q ks vs) = true := by
  simp [hk, hv, trus_clean _ (fun v hv => tl_tru hv)]
/-- the clerk's functions of a stage -/
abbrev comesV : AV := .fn 47 [] [.cptr [.int .i64 0]]
abbrev roughV : AV := .fn 50 [] [.cptr [.int .i64 0]]
theorem k47 (o : Ob) (ks vs : List AV) (hk : cleans ks = true) (hv : cleans vs = true) (t : Tru) : icall pr comesV [.agg (opc o o.q ks vs), t.v] = some (.int .i64 t.mn) := by
  have hcl := opc_clean o hk hv
  refine icall_fn fn47 rfl rfl (by simp [hk, hv, trus_clean _ (fun v hv => tl_tru hv)]) rfl ?_
  simp [g47_claim_Comes_1, g47_claim_Comes_1_c, results, rdRess, rdRes]
theorem k50 (o : Ob) (ks vs : List AV) (hk : cleans ks = true) (hv : cleans vs = true) (t : Tru) : icall pr roughV [.agg (opc o o.q ks vs), t.v] = some (.int .i64 t.r) := by
  refine icall_fn fn50 rfl rfl (by simp [hk, hv, trus_clean _ (fun v hv => tl_tru hv)]) rfl ?_
  simp [g50_claim_Rough_1, g50_claim_Rough_1_c, results, rdRess, rdRes]
theorem k75 (o : Ob) (ks vs : List AV) (hk : cleans ks = true) (hv : cleans vs = true) (f : AV) (hf : f.clean = true) (hfe : evt f = some f) (t : Tru) (n : Int) (h : icall pr f [.agg (opc o o.q ks vs), t.v] = some (.int .i64 n)) :
    icall pr (.fn 75 [] [.cptr [f], .cptr (opc o o.q ks vs)]) [t.v] = some (.int .i64 n) := by
  refine icall_fn fn75 rfl (by simp [hf, hk, hv, trus_clean _ (fun v hv => tl_tru hv)]) (by simp) rfl ?_
  simp only [Tru.v, Tru.c] at h
  simp [g75_claim_stage_1, g75_claim_stage_1_c, results, rdRess, rdRes, hfe, h]
theorem k46 (o : Ob) (ho : o.Ok) (h4 : o.q.length ≤ 4) (f : AV) (hf : f.clean = true) (hff : f.flat = true) (hfe : evt f = some f) (hfs : f.shutv = f) (g : Tru → Int)
    (hg : ∀ ks vs, cleans ks = true → cleans vs = true → ∀ t, icall pr f [.agg (opc o o.q ks vs), t.v] = some (.int .i64 (g t))) (t0 : Tru) (ht0 : (tt o o.q)[0]? = some t0) :
    icall pr (.fn 46 [] []) [o.cb.v, .int .i64 0, f] = some (.tup [.agg [.int .i64 (loT g (g t0) (tt o o.q)), .int .i64 (hiT g (g t0) (tt o o.q))], .int .i64 0]) := by
  have hT : tt o o.q ≠ [] := by intro h; rw [h] at ht0; cases ht0
  obtain ⟨ks, vs, h53, hk, hv⟩ := k53 o ho h4 hT
  have hcl := opc_clean o hk hv
  have h55 := k55 o ho ks vs hk hv (.fn 75 [] [.cptr [f], .cptr (opc o o.q ks vs)]) (by simp [hf, hk, hv, trus_clean _ (fun v hv => tl_tru hv)]) rfl rfl g
    (fun t _ => k75 o ks vs hk hv f hf hfe t _ (hg ks vs hk hv t)) t0 ht0
  have hfc : f.cells = [f] := by cases f <;> first | rfl | cases hff
  refine icall_fn fn46 rfl rfl (by simp [hf]) rfl ?_
  simp [g46_claim_stage, g46_claim_stage_c, k26, hff, hfc, hfe, h53, h55, results, rdRess, rdRes]
end Av
end

section
/- Contracts of claim: Comes, Rough, Weather, First, Fits. -/
set_option linter.unusedSimpArgs false
set_option linter.unusedVariables false
set_option maxRecDepth 8000
namespace Av
open Go (IntKind BinOp UnOp)

theorem k15 (o : Ob) (ho : o.Ok) (h4 : o.q.length ≤ 4) (t0 : Tru) (ht0 : (tt o o.q)[0]? = some t0) :
    icall pr (.fn 15 [] []) [o.cb.v, .int .i64 0] = some (.tup [.agg [.int .i64 (loT (·.mn) t0.mn (tt o o.q)), .int .i64 (hiT (·.mn) t0.mn (tt o o.q))], .int .i64 0]) := by
  have h46 := k46 o ho h4 comesV rfl rfl rfl rfl (·.mn) (fun ks vs hk hv t => k47 o ks vs hk hv t) t0 ht0
  refine icall_fn fn15 rfl rfl (by simp) rfl ?_
  simp [g15_claim_Comes, g15_claim_Comes_c, h46, results, rdRess, rdRes]
theorem k17 (o : Ob) (ho : o.Ok) (h4 : o.q.length ≤ 4) (t0 : Tru) (ht0 : (tt o o.q)[0]? = some t0) :
    icall pr (.fn 17 [] []) [o.cb.v, .int .i64 0] = some (.tup [.agg [.int .i64 (loT (·.r) t0.r (tt o o.q)), .int .i64 (hiT (·.r) t0.r (tt o o.q))], .int .i64 0]) := by
  have h46 := k46 o ho h4 roughV rfl rfl rfl rfl (·.r) (fun ks vs hk hv t => k50 o ks vs hk hv t) t0 ht0
  refine icall_fn fn17 rfl rfl (by simp) rfl ?_
  simp [g17_claim_Rough, g17_claim_Rough_c, h46, results, rdRess, rdRes]

theorem mem_tt {o : Ob} {Q : List (Int × Int)} {t : Tru} : t ∈ tt o Q ↔ ∃ w d k, w < 2 ∧ d < o.slows ∧ k < 2 ∧ okm Q (o.mn w d k) = true ∧ 0 < o.stops ∧ t = o.tr w d k := by
  simp only [tt, List.mem_flatMap, List.mem_range]
  constructor
  · rintro ⟨w, hw, d, hd, k, hk, h⟩
    split at h
    · rename_i hok
      obtain ⟨h1, h2⟩ := List.mem_replicate.1 h
      exact ⟨w, d, k, hw, hd, hk, hok, by omega, h2⟩
    · simp at h
  · rintro ⟨w, d, k, hw, hd, hk, hok, hs, rfl⟩
    refine ⟨w, hw, d, hd, k, hk, ?_⟩
    rw [if_pos hok]
    exact List.mem_replicate.2 ⟨by omega, rfl⟩
theorem tt_mn {o : Ob} (ho : o.Ok) {Q : List (Int × Int)} {t : Tru} (h : t ∈ tt o Q) : 1 ≤ t.mn ∧ t.mn ≤ 100 ∧ (t.w = 0 ∨ t.w = 1) := by
  obtain ⟨w, d, k, hw, hd, hk, _, _, rfl⟩ := mem_tt.1 h
  have := ho.mn (w := w) hd hk
  simp only [tr_mn, tr_w]
  omega

/-- a set of weathers -/
def setW (T : List Tru) : Int := (if T.any (fun t => t.w == 0) then 1 else 0) + (if T.any (fun t => t.w == 1) then 2 else 0)
theorem or_w (a : Int) (ha : 0 ≤ a ∧ a ≤ 3) (w : Int) (hw : w = 0 ∨ w = 1) : ∃ x, bin .shl (.int .i64 1) (.int .i64 w) = some (.int .i64 x) ∧
    bin .or (.int .i64 a) (.int .i64 x) = some (.int .i64 (if w = 0 then (if a = 0 ∨ a = 2 then a + 1 else a) else (if a = 0 ∨ a = 1 then a + 2 else a))) := by
  have : a = 0 ∨ a = 1 ∨ a = 2 ∨ a = 3 := by omega
  rcases hw with rfl | rfl
  · refine ⟨1, rfl, ?_⟩
    rcases this with rfl | rfl | rfl | rfl <;> rfl
  · refine ⟨2, rfl, ?_⟩
    rcases this with rfl | rfl | rfl | rfl <;> rfl
theorem setW_snoc (T : List Tru) (t : Tru) (hw : t.w = 0 ∨ t.w = 1) : setW (T ++ [t]) = (if t.w = 0 then (if setW T = 0 ∨ setW T = 2 then setW T + 1 else setW T) else (if setW T = 0 ∨ setW T = 1 then setW T + 2 else setW T)) := by
  rcases hw with h | h <;> cases h0 : T.any (fun t => t.w == 0) <;> cases h1 : T.any (fun t => t.w == 1) <;> simp only [setW, List.any_append, List.any_cons, List.any_nil, h, h0, h1] <;> rfl
theorem setW_bd (T : List Tru) : 0 ≤ setW T ∧ setW T ≤ 3 := by
  unfold setW; constructor <;> split <;> split <;> omega
theorem k19 (o : Ob) (ho : o.Ok) (h4 : o.q.length ≤ 4) (hT : tt o o.q ≠ []) : icall pr (.fn 19 [] []) [o.cb.v] = some (.tup [.int .i64 (setW (tt o o.q)), .int .i64 0]) := by
  obtain ⟨ks, vs, h53, hk, hv⟩ := k53 o ho h4 hT
  have hlen := tt_len ho o.q
  have htt := tl_tt o o.q
  have hmn := fun t (ht : t ∈ tt o o.q) => (tt_mn ho ht).2.2
  refine icall_fn fn19 rfl rfl (by simp) rfl ?_
  generalize hTT : tt o o.q = T at *
  simp [g19_claim_Weather, g19_claim_Weather_c, h53, htt]
  refine wpr_seq (wpr_oblock (loop_up pr (fun k e h => e 18 = .sl (T.map Tru.v) .shut ∧ e 19 = .int .i64 T.length ∧ e 20 = .int .i64 k ∧ e 6 = .int .i64 (setW (T.take k))) T.length ?_ ?_ 0 _ _ (by omega) ⟨rfl, by simp, rfl, by simp [setW]⟩))
  · rintro k e h hk2 ⟨e18, e19, e20, e6⟩
    have hw : IntKind.wrap .i64 ((k : Int) + 1) = k + 1 := wrap_id (by omega) (by omega)
    have hwt := hmn T[k] (List.getElem_mem _)
    have htk : T.take k ++ [T[k]] = T.take (k + 1) := by rw [List.take_add_one, List.getElem?_eq_getElem hk2]; rfl
    have hs := setW_snoc (T.take k) T[k] hwt
    rw [htk] at hs
    obtain ⟨x, hx1, hx2⟩ := or_w (setW (T.take k)) (setW_bd _) T[k].w hwt
    rw [← hs] at hx2
    simp [g19_claim_Weather_l0, e18, e19, e20, e6, hk2, hw, hx1, hx2]
  · rintro e h ⟨e18, e19, e20, e6⟩
    rw [List.take_length] at e6
    simp [g19_claim_Weather_l0, e18, e19, e20, e6, onB, onN, results, rdRess, rdRes]

def lateT (o : Ob) (t : Tru) : Int := max 0 (t.mn - o.due)
theorem k57 (o : Ob) (ho : o.Ok) (ks vs : List AV) (hk : cleans ks = true) (hv : cleans vs = true) (t : Tru) (ht : 1 ≤ t.mn ∧ t.mn ≤ 100) : icall pr (.fn 57 [] []) [.agg (opc o o.q ks vs), t.v, .int .i64 0] = some (.int .i64 (lateT o t)) := by
  have hd := ho.due
  refine icall_fn fn57 rfl rfl (by simp [hk, hv, trus_clean _ (fun v hv => tl_tru hv)]) rfl ?_
  have hw : IntKind.wrap .i64 (t.mn - o.due) = t.mn - o.due := wrap_id (by omega) (by omega)
  simp [g57_claim_book_late, g57_claim_book_late_c, svs, results, rdRess, rdRes, hw, lateT]
theorem k56 (o : Ob) (ho : o.Ok) (ks vs : List AV) (hk : cleans ks = true) (hv : cleans vs = true) (t : Tru) (ht : 1 ≤ t.mn ∧ t.mn ≤ 100) : icall pr (.fn 56 [] [.cptr (opc o o.q ks vs), .cptr [.int .i64 0]]) [t.v] = some (.int .i64 (lateT o t)) := by
  have h57 := k57 o ho ks vs hk hv t ht
  simp only [Tru.v, Tru.c] at h57
  refine icall_fn fn56 rfl (by simp [hk, hv, trus_clean _ (fun v hv => tl_tru hv)]) (by simp) rfl ?_
  simp [g56_claim_First_1, g56_claim_First_1_c, results, rdRess, rdRes, h57]
theorem k21 (o : Ob) (ho : o.Ok) (h4 : o.q.length ≤ 4) (t0 : Tru) (ht0 : (tt o o.q)[0]? = some t0) :
    icall pr (.fn 21 [] []) [o.cb.v] = some (.tup [.int .i64 0, .int .i64 (if 0 < loT (lateT o) (lateT o t0) (tt o o.q) then 0 else 4)]) := by
  have hT : tt o o.q ≠ [] := by intro h; rw [h] at ht0; cases ht0
  obtain ⟨ks, vs, h53, hk, hv⟩ := k53 o ho h4 hT
  have hf : (AV.fn 56 [] [.cptr (opc o o.q ks vs), .cptr [.int .i64 0]]).clean = true := by simp [hk, hv, trus_clean _ (fun v hv => tl_tru hv)]
  have h55 := k55 o ho ks vs hk hv (.fn 56 [] [.cptr (opc o o.q ks vs), .cptr [.int .i64 0]]) hf rfl rfl (lateT o) (fun t ht => k56 o ho ks vs hk hv t ⟨(tt_mn ho ht).1, (tt_mn ho ht).2.1⟩) t0 ht0
  refine icall_fn fn21 rfl rfl (by simp) rfl ?_
  simp [g21_claim_First, g21_claim_First_c, h53]
  refine wpr_seq (wpr_oblock ?_)
  rw [r_loop]
  by_cases hlt : 0 < loT (lateT o) (lateT o t0) (tt o o.q)
  · simp [g21_claim_First_l0, h55, hlt, onB, onN, results, rdRess, rdRes]
  · simp [g21_claim_First_l0, h55, hlt]
    rw [r_loop]
    simp [g21_claim_First_l0, onB, onN, results, rdRess, rdRes]
end Av
end

section
/- Contracts of claim: Fits, Wrong. -/
set_option linter.unusedSimpArgs false
set_option linter.unusedVariables false
set_option maxRecDepth 8000
namespace Av
open Go (IntKind BinOp UnOp)

/-- a clock, or a staff, more -/
def Ob.more (o : Ob) (n : Int) : Ob := { o with q := o.q ++ [(n, 0)] }
theorem more_ok {o : Ob} (ho : o.Ok) (h4 : o.q.length ≤ 4) {n : Int} (hn : 0 ≤ n ∧ n ≤ 600) : (o.more n).Ok := by
  refine ⟨ho.due, ho.az, ho.low, ho.s, ho.c, ho.rate, fun p hp => ?_, by simp [Ob.more]; omega⟩
  rcases List.mem_append.1 hp with hp | hp
  · exact ho.q p hp
  · have : p = (n, 0) := by simpa using hp
    subst this; simp; omega
theorem k24 (o : Ob) (ho : o.Ok) (h4 : o.q.length ≤ 4) (hT : tt o o.q ≠ []) (n : Int) (hn : 0 ≤ n ∧ n ≤ 600) :
    icall pr (.fn 24 [] []) [o.cb.v, (ck (n, 0)).v] = some (.tup [.bool (o.more n).is, .int .i64 0]) := by
  obtain ⟨ks, vs, h53, hk, hv⟩ := k53 o ho h4 hT
  have hcl := opc_clean o hk hv
  have hm := more_ok ho h4 hn
  obtain ⟨ks2, vs2, h42, hk2, hv2⟩ := k42n (o.more n) hm
  have h28 := k28 o.cb (Ob.fit ho) (ck (n, 0))
  have hck : (ck (n, 0)).ok o.cb.ss.length = true := by simp [Clk.ok]; omega
  rw [hck] at h28
  have hp := tl_pos (o.more n) (o.more n).q
  obtain ⟨h', ha, hn', hgt, hf⟩ := app_okT (h := H.emp) (sz := 3) (bytes := 24) (es := cvs (o.q.map ck)) (k := .exact) (new := [(ck (n, 0)).v]) (k2 := .exact) (.inl rfl) (by simp) (cvs_cell3 _) (by simp) (by simp; omega)
  have hq : cvs (o.q.map ck) ++ [(ck (n, 0)).v] = cvs ((o.more n).q.map ck) := by simp [cvs, Ob.more]
  have hc3 : ∀ x, x ∈ cvs (o.q.map ck) → x.cells.length = 3 := fun x hx => by
    have := List.all_eq_true.1 (cvs_cell3 (o.q.map ck)) x hx; simpa using this
  have htk : List.take o.q.length (cvs (o.q.map ck)) = cvs (o.q.map ck) := List.take_of_length_le (by simp)
  simp only [Clk.v] at hq ha
  have hsl : oslice 3 none (some (some (.int .i64 o.q.length))) (some (some (.int .i64 o.q.length))) (some (.sl (cvs (o.q.map ck)) .shut)) = some (.sl (cvs (o.q.map ck)) .exact, none) := by
    rw [oslice_s, if_pos (cvs_cell3 _)]
    simp [htk]
  refine icall_fn fn24 rfl rfl (by simp) rfl ?_
  simp [g24_claim_Fits, g24_claim_Fits_c, h28, h53, hsl, - oslice_s, ha]
  rw [hq]
  have h42' : icall pr (.fn 42 [] []) [.agg [.sl (svs [o.st]) .shut, .int .i64 3, .int .i64 0, .int .i64 o.c, .int .i64 0, .sl (cvs ((o.more n).q.map ck)) .shut, .int .i64 o.rate], .sl [] .shut] = some (.agg (opc (o.more n) (o.more n).q ks2 vs2)) := h42
  simp [h42', results, rdRess, rdRes, Ob.is, ← hp]
end Av
end

section
/- The fewest that must be wrong: the search, and claim.Wrong. -/
set_option linter.unusedSimpArgs false
set_option linter.unusedVariables false
set_option maxRecDepth 8000
namespace Av
open Go (IntKind BinOp UnOp)

/-- the number behind the last one -/
def fromI : List Int → Int
  | [] => 0
  | x :: l => (x :: l).getD l.length 0 + 1
/-- the first choice of so many more without which all can be right -/
def chooseP (can : List Int → Bool) (N : Nat) : Nat → List Int → Option (List Int)
  | 0, l => if can l then some l else none
  | d + 1, l => (List.range N).findSome? fun (n : Nat) => if fromI l ≤ (n : Int) then chooseP can N d (l ++ [(n : Int)]) else none
def wrongP (can : List Int → Bool) (N : Nat) : Option (List Int) := (List.range (N + 1)).findSome? fun many => chooseP can N many []
def wrongL (can : List Int → Bool) (N : Nat) : List Int := match wrongP can N with | some l => l | none => []
theorem findSome_succ {β : Type} (g : Nat → Option β) (k : Nat) (h : (List.range k).findSome? g = none) : (List.range (k + 1)).findSome? g = g k := by
  rw [List.range_succ, List.findSome?_append, h]
  simp
theorem findSome_pre {β : Type} (g : Nat → Option β) (k m : Nat) (x : β) (hkm : k ≤ m) (h : (List.range k).findSome? g = some x) : (List.range m).findSome? g = some x := by
  induction hkm with
  | refl => exact h
  | step _ ih => rw [Nat.succ_eq_add_one, List.range_succ, List.findSome?_append, ih]; rfl
theorem findSome_none {β : Type} (g : Nat → Option β) (k : Nat) (h : ∀ n, n < k → g n = none) : (List.range k).findSome? g = none := by
  rw [List.findSome?_eq_none_iff]
  intro n hn; exact h n (List.mem_range.1 hn)

/-- can all clocks but some be right? -/
def canC (o : Ob) (l : List Int) : Bool := decide (tt o (o.left l) ≠ [])
abbrev lvV (o : Ob) (c : Nat) : AV := .fn 44 [] [.cptr o.cb.c, .ptr c 0]
theorem leave_ok (o : Ob) (ho : o.Ok) (c : Nat) : ∀ (d many : Nat) (l : List Int) (kk : SK) (h : H), l.length + d = many → many ≤ o.q.length → (∀ x ∈ l, 0 ≤ x ∧ x < o.q.length) →
    h.get c = some (.cells [lvV o c]) → c < h.n →
    ∃ w h', dcall pr (lvV o c) [.sl (iv l) kk, .int .i64 many] h = some (w, h') ∧ ∃ es k', w = .tup [.sl es k', .bool (chooseP (canC o) o.q.length d l).isSome] ∧ h'.get c = some (.cells [lvV o c]) ∧ c < h'.n ∧ ∀ l', chooseP (canC o) o.q.length d l = some l' → es = iv l' := by
  intro d
  induction d with
  | zero =>
    intro many l kk h hd hm hx hc hn
    have hlen := ho.len
    have hlm : many = l.length := by omega
    subst hlm
    obtain ⟨w42, h42, ks, vs, rfl, hk, hv⟩ := k42 o ho l (by omega)
    have hp := tl_pos o (o.left l)
    refine dcall_of fn44 rfl ?_
    simp [g44_claim_Wrong_1, g44_claim_Wrong_1_c, h42, results, rdRess, rdRes, chooseP]
    have hcan : canC o l = decide (0 < (tl o (o.left l)).length) := by simp only [canC, hp]
    rw [← hcan]
    cases canC o l <;> simp [hc, hn]
  | succ d ih =>
    intro many l kk h hd hm hx hc hn
    have hlen := ho.len
    have hne : ¬ (l.length : Int) = many := by omega
    refine dcall_of fn44 rfl ?_
    let g : Nat → Option (List Int) := fun (n : Nat) => if fromI l ≤ (n : Int) then chooseP (canC o) o.q.length d (l ++ [(n : Int)]) else none
    have hg : chooseP (canC o) o.q.length (d + 1) l = (List.range o.q.length).findSome? g := rfl
    rw [hg]
    have hfr : 0 ≤ fromI l ∧ fromI l ≤ o.q.length := by
      cases l with
      | nil => simp [fromI]
      | cons x l =>
        have : (x :: l).getD l.length 0 ∈ x :: l := by
          rw [List.getD_eq_getElem?_getD, List.getElem?_eq_getElem (by simp)]
          exact List.getElem_mem _
        have := hx _ this
        simp only [fromI]; omega
    have key : ∀ e : Env, e 0 = .sl (iv l) kk → e 1 = .int .i64 many → e 2 = .cptr o.cb.c → e 3 = .ptr c 0 → e 8 = .int .i64 l.length → e 10 = .int .i64 (fromI l) →
        wpr (den pr (.loop g44_claim_Wrong_1_l0) e h) fun oo e' h' => h'.get c = some (.cells [lvV o c]) ∧ c < h'.n ∧
          (match (List.range o.q.length).findSome? g with | some l' => oo = .ret ∧ e' 7 = .bool true ∧ ∃ k', e' 6 = .sl (iv l') k' | none => oo = .exit 0) := by
      intro e e0 e1 e2 e3 e8 e10
      obtain ⟨n0, hn0⟩ := Int.eq_ofNat_of_zero_le hfr.1
      refine loop_up pr (fun k e' h' => e' 0 = e 0 ∧ e' 1 = e 1 ∧ e' 2 = e 2 ∧ e' 3 = e 3 ∧ e' 8 = e 8 ∧ e' 10 = .int .i64 k ∧ n0 ≤ k ∧ (List.range k).findSome? g = none ∧ h'.get c = some (.cells [lvV o c]) ∧ c < h'.n) o.q.length ?_ ?_ n0 e h (by omega)
        ⟨rfl, rfl, rfl, rfl, rfl, by rw [e10, hn0], Nat.le_refl _, findSome_none _ _ (fun n hnn => by simp only [g]; rw [if_neg (by omega)]), hc, hn⟩
      · rintro k e' h' hk ⟨q0, q1, q2, q3, q8, q10, hk0, hno, hcc, hcn⟩
        rw [e0] at q0; rw [e1] at q1; rw [e2] at q2; rw [e3] at q3; rw [e8] at q8
        have hw : IntKind.wrap .i64 ((k : Int) + 1) = k + 1 := wrap_id (by omega) (by omega)
        obtain ⟨h2, ha, hn2, hgt, hfr2⟩ := app_okT (h := h') (k := .exact) (bytes := 8) (new := [.int .i64 k]) (k2 := .exact) (sz := 1) (es := iv l) (.inl rfl) (by simp) (iv_cell1 _) (by simp) (by simp; omega)
        have hcc2 : h2.get c = some (.cells [lvV o c]) := by rw [hfr2 c hcn (by simp)]; exact hcc
        obtain ⟨w, h3, hd3, es3, k3, rfl, hcc3, hcn3, hv⟩ := ih many (l ++ [(k : Int)]) (.opn h'.n) h2 (by simp; omega) hm (by
          intro x hxx
          rcases List.mem_append.1 hxx with h1 | h1
          · exact hx x h1
          · simp at h1; subst h1; omega) hcc2 (by omega)
        have ht : (iv l).take l.length = iv l := List.take_of_length_le (by simp)
        have hgk : g k = chooseP (canC o) o.q.length d (l ++ [(k : Int)]) := by simp only [g]; rw [if_pos (by omega)]
        have hs := findSome_succ g k hno
        rw [hgk] at hs
        simp at ha hd3
        simp only [e0, e1, e2, e3, e8]
        cases hch : chooseP (canC o) o.q.length d (l ++ [(k : Int)]) with
        | none =>
          rw [hch] at hs hd3
          simp only [Option.isSome_none] at hd3
          simp [g44_claim_Wrong_1_l0, q0, q1, q2, q3, q8, q10, hk, hcc, hcn, ht, ha, hd3, hw, hs, hcc3, hcn3]
          omega
        | some l' =>
          have hv' := hv l' hch
          subst hv'
          rw [hch] at hs hd3
          simp only [Option.isSome_some] at hd3
          rw [findSome_pre g (k + 1) o.q.length l' (by omega) hs]
          simp [g44_claim_Wrong_1_l0, q0, q1, q2, q3, q8, q10, hk, hcc, hcn, ht, ha, hd3, hw, hs, hcc3, hcn3, onB]
      · rintro e' h' ⟨q0, q1, q2, q3, q8, q10, hk0, hno, hcc, hcn⟩
        rw [e2] at q2
        simp [g44_claim_Wrong_1_l0, q2, q10, hno, hcc, hcn]
    cases l with
    | nil =>
      simp [g44_claim_Wrong_1, g44_claim_Wrong_1_c] at hne ⊢
      simp [hne]
      refine wpr_seq (wpr_oblock (wpr_mono (key _ rfl rfl rfl rfl rfl rfl) ?_))
      rintro oo e h' ⟨hcc, hcn, hr⟩
      cases hf : (List.range o.q.length).findSome? g with
      | none => rw [hf] at hr; subst hr; simp [onB, onN, results, rdRess, rdRes, hcc, hcn]
      | some l' =>
        rw [hf] at hr
        obtain ⟨rfl, q7, k', q6⟩ := hr
        simp [onB, onN, results, rdRess, rdRes, q6, q7, hcc, hcn]
    | cons x l =>
      have hel : (iv (x :: l))[l.length]? = some (.int .i64 ((x :: l).getD l.length 0)) := by
        rw [iv_get, List.getD_eq_getElem?_getD, List.getElem?_eq_getElem (by simp)]; rfl
      have hw1 : IntKind.wrap .i64 (((x :: l).length : Int) - 1) = (l.length : Int) := by
        rw [wrap_id (by simp only [List.length_cons]; omega) (by simp at hd ⊢; omega)]; simp
      have hw2 : IntKind.wrap .i64 ((x :: l).getD l.length 0 + 1) = fromI (x :: l) := by
        simp only [fromI] at hfr ⊢; exact wrap_id (by omega) (by omega)
      generalize hL : x :: l = L at *
      have hpos : 0 < L.length := by rw [← hL]; simp
      generalize (L.getD l.length 0) = z at *
      simp only [iv_get] at hel
      obtain ⟨y, hy, hyz⟩ := Option.map_eq_some_iff.1 hel
      injection hyz with _ hyz
      subst hyz
      simp [g44_claim_Wrong_1, g44_claim_Wrong_1_c, hne, hpos, hw1, hw2, hy]
      refine wpr_seq (wpr_oblock (wpr_mono (key _ rfl rfl rfl rfl rfl rfl) ?_))
      rintro oo e h' ⟨hcc, hcn, hr⟩
      cases hf : (List.range o.q.length).findSome? g with
      | none => rw [hf] at hr; subst hr; simp [onB, onN, results, rdRess, rdRes, hcc, hcn]
      | some l' =>
        rw [hf] at hr
        obtain ⟨rfl, q7, k', q6⟩ := hr
        simp [onB, onN, results, rdRess, rdRes, q6, q7, hcc, hcn]

theorem k12 (o : Ob) (ho : o.Ok) (h4 : o.q.length ≤ 4) : icall pr (.fn 12 [] []) [o.cb.v] = some (.tup [.sl (iv (wrongL (canC o) o.q.length)) .shut, .int .i64 0]) := by
  have hc := k4 o.cb (Ob.fit ho)
  rw [ho.cb h4] at hc
  refine icall_fn fn12 rfl (by simp) (by simp) (by simp) ?_
  have hw0 : IntKind.wrap .i64 ((o.q.length : Int) + 1) = o.q.length + 1 := wrap_id (by omega) (by omega)
  simp [g12_claim_Wrong, g12_claim_Wrong_c, hc, hw0]
  refine wpr_seq (wpr_oblock (loop_up pr (fun k e h => e 5 = .ptr 0 0 ∧ e 18 = .int .i64 ((o.q.length : Int) + 1) ∧ e 19 = .int .i64 k ∧ (List.range k).findSome? (fun many => chooseP (canC o) o.q.length many []) = none ∧ h.get 0 = some (.cells [lvV o 0]) ∧ 0 < h.n) (o.q.length + 1) ?_ ?_ 0 _ _ (by omega) ⟨rfl, rfl, rfl, rfl, rfl, by simp⟩))
  · rintro k e h hk ⟨e5, e18, e19, hno, hcc, hcn⟩
    have hw : IntKind.wrap .i64 ((k : Int) + 1) = k + 1 := wrap_id (by omega) (by omega)
    have hk2 : (k : Int) < (o.q.length : Int) + 1 := by omega
    obtain ⟨w, h3, hd3, es3, k3, rfl, hcc3, hcn3, hv⟩ := leave_ok o ho 0 k k [] .exact h (by simp) (by omega) (by simp) hcc hcn
    have hs := findSome_succ (fun many => chooseP (canC o) o.q.length many []) k hno
    simp at hd3
    cases hch : chooseP (canC o) o.q.length k [] with
    | none =>
      rw [hch] at hs hd3
      simp only [Option.isSome_none] at hd3
      simp [g12_claim_Wrong_l0, e5, e18, e19, hcc, hcn, hk2, hd3, hw, hcc3, hcn3]
      simpa using hs
    | some l' =>
      have hv' := hv l' hch
      subst hv'
      rw [hch] at hs hd3
      simp only [Option.isSome_some] at hd3
      have hw' : wrongP (canC o) o.q.length = some l' := findSome_pre _ (k + 1) (o.q.length + 1) l' (by omega) hs
      have ht : (iv l').take l'.length = iv l' := List.take_of_length_le (by simp)
      simp [g12_claim_Wrong_l0, e5, e18, e19, hcc, hcn, hk2, hd3, hw, wrongL, hw', onB, onN, results, rdRess, rdRes, ht]
  · rintro e h ⟨e5, e18, e19, hno, hcc, hcn⟩
    have hw' : wrongP (canC o) o.q.length = none := hno
    simp [g12_claim_Wrong_l0, e5, e18, e19, wrongL, hw', onB, onN, results, rdRess, rdRes]
end Av
end
