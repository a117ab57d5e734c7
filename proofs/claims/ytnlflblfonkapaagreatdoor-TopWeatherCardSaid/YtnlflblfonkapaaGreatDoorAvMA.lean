/- The interpreter in the limit, the relation to the memory, the checker: no condition. -/
import Derived.AtR
import Derived.Laws.Rows
import Derived.Laws.CopyRow
import Derived.Test.YtnlflblfonkapaaGreatDoorAvMZ
set_option linter.all false
set_option linter.unusedSectionVars false
set_option linter.unusedVariables false
set_option linter.unusedSimpArgs false
set_option linter.unnecessarySimpa false
section
/- The limit of the interpreter over all fuel, and its equations. -/
namespace Av
open Go (IntKind BinOp UnOp)

variable (p : AProg)

theorem mono_all : ∀ n,
    (∀ c e h r, exec p n c e h = some r → exec p (n + 1) c e h = some r) ∧
    (∀ os e h r, opsx p n os e h = some r → opsx p (n + 1) os e h = some r) ∧
    (∀ f vs h r, callx p n f vs h = some r → callx p (n + 1) f vs h = some r) := by
  intro n
  induction n with
  | zero => exact ⟨fun c e h r hh => by simp [exec] at hh, fun os e h r hh => by simp [opsx] at hh, fun f vs h r hh => by simp [callx] at hh⟩
  | succ n ih =>
    obtain ⟨ihe, iho, ihc⟩ := ih
    refine ⟨?_, ?_, ?_⟩
    · intro c e h r hh
      cases c with
      | skip => simpa only [exec] using hh
      | ret => simpa only [exec] using hh
      | exit i => simpa only [exec] using hh
      | reg ops =>
        rw [exec] at hh ⊢
        cases hx : opsx p n ops e h with
        | none => rw [hx] at hh; cases hh
        | some q => rw [hx] at hh; rw [iho _ _ _ _ hx]; exact hh
      | seq a b =>
        rw [exec] at hh ⊢
        cases hx : exec p n a e h with
        | none => rw [hx] at hh; cases hh
        | some q =>
          rw [hx] at hh; rw [ihe _ _ _ _ hx]
          obtain ⟨o, e1, h1⟩ := q
          cases o with
          | normal => exact ihe _ _ _ _ hh
          | _ => exact hh
      | cond x a b =>
        rw [exec] at hh ⊢
        split at hh
        · exact ihe _ _ _ _ hh
        · exact ihe _ _ _ _ hh
        · cases hh
      | block i c =>
        rw [exec] at hh ⊢
        cases hx : exec p n c e h with
        | none => rw [hx] at hh; cases hh
        | some q => rw [hx] at hh; rw [ihe _ _ _ _ hx]; exact hh
      | loop c =>
        rw [exec] at hh ⊢
        cases hx : exec p n c e h with
        | none => rw [hx] at hh; cases hh
        | some q =>
          rw [hx] at hh; rw [ihe _ _ _ _ hx]
          obtain ⟨o, e1, h1⟩ := q
          cases o with
          | normal => exact ihe _ _ _ _ hh
          | _ => exact hh
      | scope c => rw [exec] at hh ⊢; exact ihe _ _ _ _ hh
      | frz ss c =>
        rw [exec] at hh ⊢
        split at hh
        · exact ihe _ _ _ _ hh
        · cases hh
      | frzm s c =>
        rw [exec] at hh ⊢
        split at hh
        · exact ihe _ _ _ _ hh
        · cases hh
      | shr s c =>
        rw [exec] at hh ⊢
        split at hh
        · exact ihe _ _ _ _ hh
        · cases hh
      | rangeF f ps asn body =>
        rw [exec] at hh ⊢
        cases hf : ev p e f with
        | none => rw [hf] at hh; cases hh
        | some fv =>
          rw [hf] at hh
          simp only at hh ⊢
          cases hx : callx p n fv [.yld h.n] (h.new (.loop ⟨snap e, ps, asn, body, 0, none⟩)) with
          | none => rw [hx] at hh; cases hh
          | some q => rw [hx] at hh; rw [ihc _ _ _ _ hx]; exact hh
    · intro os e h r hh
      cases os with
      | nil => simpa only [opsx] using hh
      | cons o os =>
        rw [opsx] at hh ⊢
        cases hw : wantedA e o.guard with
        | none => rw [hw] at hh; cases hh
        | some w =>
          rw [hw] at hh
          cases w with
          | false => exact iho _ _ _ _ hh
          | true =>
            simp only at hh ⊢
            cases hi : o.ins with
            | p i =>
              rw [hi] at hh; simp only at hh ⊢
              cases hs : stepP p e i with
              | none => rw [hs] at hh; cases hh
              | some q =>
                obtain ⟨v, w⟩ := q
                rw [hs] at hh
                cases w with
                | none => exact iho _ _ _ _ hh
                | some w => exact iho _ _ _ _ hh
            | h i =>
              rw [hi] at hh; simp only at hh ⊢
              cases hs : stepH p e h i with
              | none => rw [hs] at hh; cases hh
              | some q => rw [hs] at hh; exact iho _ _ _ _ hh
            | call f args =>
              rw [hi] at hh; simp only at hh ⊢
              split at hh
              · rename_i fv vs hf hv
                split at hh
                · rename_i v h1 hx
                  simp only [ihc _ _ _ _ hx]; exact iho _ _ _ _ hh
                · cases hh
              · cases hh
            | calli f args =>
              rw [hi] at hh; simp only at hh ⊢
              split at hh
              · rename_i fv vs hf hv
                split at hh
                · rename_i hc
                  split at hh
                  · rename_i v h1 hx
                    split at hh
                    · rename_i hcv
                      simp only [hc, if_true, ihc _ _ _ _ hx, hcv]; exact iho _ _ _ _ hh
                    · cases hh
                  · cases hh
                · cases hh
              · cases hh
            | callf f args =>
              rw [hi] at hh; simp only at hh ⊢
              split at hh
              · rename_i fv vs hf hv
                split at hh
                · rename_i hc
                  split at hh
                  · rename_i v h1 hx
                    split at hh
                    · rename_i hcv
                      simp only [hc, if_true, ihc _ _ _ _ hx, hcv]; exact iho _ _ _ _ hh
                    · cases hh
                  · cases hh
                · cases hh
              · cases hh
    · intro f vs h r hh
      cases f with
      | fn f first cap =>
        rw [callx] at hh ⊢
        cases hf : p.fn f with
        | none => rw [hf] at hh; cases hh
        | some F =>
          rw [hf] at hh; simp only at hh ⊢
          split at hh
          · rename_i hl
            rw [if_pos hl]
            cases hx : exec p n F.body (init (first ++ vs ++ cap)) h with
            | none => rw [hx] at hh; cases hh
            | some q => rw [hx] at hh; rw [ihe _ _ _ _ hx]; exact hh
          · cases hh
      | yld l =>
        rw [callx] at hh ⊢
        split at hh
        · rename_i r0 hr0
          split at hh
          · rename_i hl
            simp only [hl, and_self, if_true]
            split at hh
            · rename_i e1 h1 hx
              simp only [ihe _ _ _ _ hx]
              split at hh
              · rename_i r1 hr1
                split at hh
                · rename_i hs1
                  simp only [hs1, if_true]
                  split at hh
                  · rename_i o e2 h2 hx2
                    simp only [ihe _ _ _ _ hx2]; exact hh
                  · cases hh
                · cases hh
              · cases hh
            · cases hh
          · cases hh
        · cases hh
      | _ => simp [callx] at hh

theorem exec_mono {n m : Nat} (h : n ≤ m) {c e h0 r} (hh : exec p n c e h0 = some r) : exec p m c e h0 = some r := by
  induction h with
  | refl => exact hh
  | step _ ih => exact (mono_all p _).1 _ _ _ _ ih
theorem opsx_mono {n m : Nat} (h : n ≤ m) {c e h0 r} (hh : opsx p n c e h0 = some r) : opsx p m c e h0 = some r := by
  induction h with
  | refl => exact hh
  | step _ ih => exact (mono_all p _).2.1 _ _ _ _ ih
theorem callx_mono {n m : Nat} (h : n ≤ m) {c e h0 r} (hh : callx p n c e h0 = some r) : callx p m c e h0 = some r := by
  induction h with
  | refl => exact hh
  | step _ ih => exact (mono_all p _).2.2 _ _ _ _ ih

open Classical in
/-- the limit of a function over fuel -/
noncomputable def lim {α : Type} (f : Nat → Option α) : Option α := if h : ∃ r, ∃ n, f n = some r then some (choose h) else none

theorem lim_iff {α : Type} {f : Nat → Option α} (hm : ∀ n m r, n ≤ m → f n = some r → f m = some r) (r : α) : lim f = some r ↔ ∃ n, f n = some r := by
  unfold lim
  constructor
  · intro h
    split at h
    · rename_i hx
      have := Classical.choose_spec hx
      cases h
      exact this
    · cases h
  · rintro ⟨n, hn⟩
    have hx : ∃ r, ∃ n, f n = some r := ⟨r, n, hn⟩
    rw [dif_pos hx]
    obtain ⟨m, hm'⟩ := Classical.choose_spec hx
    have h1 := hm _ (max n m) _ (Nat.le_max_left _ _) hn
    have h2 := hm _ (max n m) _ (Nat.le_max_right _ _) hm'
    rw [h1] at h2
    exact h2.symm

noncomputable def den (c : ACode) (e : Env) (h : H) : Option (Out × Env × H) := lim fun n => exec p n c e h
noncomputable def dops (os : List GIns) (e : Env) (h : H) : Option (Env × H) := lim fun n => opsx p n os e h
noncomputable def dcall (f : AV) (vs : List AV) (h : H) : Option (AV × H) := lim fun n => callx p n f vs h

theorem den_iff (c e h r) : den p c e h = some r ↔ ∃ n, exec p n c e h = some r := lim_iff (fun _ _ _ hle hh => exec_mono p hle hh) r
theorem dops_iff (os e h r) : dops p os e h = some r ↔ ∃ n, opsx p n os e h = some r := lim_iff (fun _ _ _ hle hh => opsx_mono p hle hh) r
theorem dcall_iff (f vs h r) : dcall p f vs h = some r ↔ ∃ n, callx p n f vs h = some r := lim_iff (fun _ _ _ hle hh => callx_mono p hle hh) r

theorem opt_ext {α : Type} {a b : Option α} (h : ∀ r, a = some r ↔ b = some r) : a = b := by
  cases a with
  | none => cases b with
    | none => rfl
    | some y => exact absurd ((h y).2 rfl) (by simp)
  | some x => exact ((h x).1 rfl).symm

theorem den_skip (e h) : den p .skip e h = some (.normal, e, h) := (den_iff ..).2 ⟨1, by rw [exec]⟩
theorem den_ret (e h) : den p .ret e h = some (.ret, e, h) := (den_iff ..).2 ⟨1, by rw [exec]⟩
theorem den_exit (i e h) : den p (.exit i) e h = some (.exit i, e, h) := (den_iff ..).2 ⟨1, by rw [exec]⟩
theorem den_reg (ops e h) : den p (.reg ops) e h = (dops p ops e h).map fun q => (Out.normal, q) := by
  refine opt_ext fun r => ?_
  rw [den_iff]
  constructor
  · rintro ⟨n, hn⟩
    cases n with
    | zero => rw [exec] at hn; cases hn
    | succ n =>
      rw [exec] at hn
      cases hx : opsx p n ops e h with
      | none => rw [hx] at hn; cases hn
      | some q => rw [hx] at hn; rw [(dops_iff ..).2 ⟨n, hx⟩]; exact hn
  · intro hh
    cases hx : dops p ops e h with
    | none => rw [hx] at hh; cases hh
    | some q =>
      obtain ⟨n, hn⟩ := (dops_iff ..).1 hx
      rw [hx] at hh
      exact ⟨n + 1, by rw [exec, hn]; exact hh⟩
theorem den_seq (a b e h) : den p (.seq a b) e h = match den p a e h with
    | some (.normal, e, h) => den p b e h
    | some (.exit i, e, h) => some (.exit i, e, h)
    | some (.ret, e, h) => some (.ret, e, h)
    | none => none := by
  refine opt_ext fun r => ?_
  rw [den_iff]
  constructor
  · rintro ⟨n, hn⟩
    cases n with
    | zero => rw [exec] at hn; cases hn
    | succ n =>
      rw [exec] at hn
      cases hx : exec p n a e h with
      | none => rw [hx] at hn; cases hn
      | some q =>
        rw [hx] at hn; rw [(den_iff ..).2 ⟨n, hx⟩]
        obtain ⟨o, e1, h1⟩ := q
        cases o with
        | normal => exact (den_iff ..).2 ⟨n, hn⟩
        | _ => exact hn
  · intro hh
    cases hx : den p a e h with
    | none => rw [hx] at hh; cases hh
    | some q =>
      obtain ⟨n, hn⟩ := (den_iff ..).1 hx
      rw [hx] at hh
      obtain ⟨o, e1, h1⟩ := q
      cases o with
      | normal =>
        obtain ⟨m, hm⟩ := (den_iff ..).1 hh
        exact ⟨max n m + 1, by rw [exec, exec_mono p (Nat.le_max_left _ _) hn]; exact exec_mono p (Nat.le_max_right _ _) hm⟩
      | _ => exact ⟨n + 1, by rw [exec, hn]; exact hh⟩
theorem den_cond (x a b e h) : den p (.cond x a b) e h = match ev p e x with
    | some (.bool true) => den p a e h
    | some (.bool false) => den p b e h
    | _ => none := by
  refine opt_ext fun r => ?_
  rw [den_iff]
  constructor
  · rintro ⟨n, hn⟩
    cases n with
    | zero => rw [exec] at hn; cases hn
    | succ n =>
      rw [exec] at hn
      split at hn
      · rename_i hx; simp only [hx]; exact (den_iff ..).2 ⟨n, hn⟩
      · rename_i hx; simp only [hx]; exact (den_iff ..).2 ⟨n, hn⟩
      · cases hn
  · intro hh
    split at hh
    · rename_i hx
      obtain ⟨n, hn⟩ := (den_iff ..).1 hh
      exact ⟨n + 1, by rw [exec]; simp only [hx]; exact hn⟩
    · rename_i hx
      obtain ⟨n, hn⟩ := (den_iff ..).1 hh
      exact ⟨n + 1, by rw [exec]; simp only [hx]; exact hn⟩
    · cases hh
theorem den_block (i c e h) : den p (.block i c) e h = match den p c e h with
    | some (.normal, e, h) => some (.normal, e, h)
    | some (.exit j, e, h) => if j = i then some (.normal, e, h) else some (.exit j, e, h)
    | some (.ret, e, h) => some (.ret, e, h)
    | none => none := by
  refine opt_ext fun r => ?_
  rw [den_iff]
  constructor
  · rintro ⟨n, hn⟩
    cases n with
    | zero => rw [exec] at hn; cases hn
    | succ n =>
      rw [exec] at hn
      cases hx : exec p n c e h with
      | none => rw [hx] at hn; cases hn
      | some q => rw [hx] at hn; rw [(den_iff ..).2 ⟨n, hx⟩]; exact hn
  · intro hh
    cases hx : den p c e h with
    | none => rw [hx] at hh; cases hh
    | some q =>
      obtain ⟨n, hn⟩ := (den_iff ..).1 hx
      rw [hx] at hh
      exact ⟨n + 1, by rw [exec, hn]; exact hh⟩
theorem den_loop (c e h) : den p (.loop c) e h = match den p c e h with
    | some (.normal, e, h) => den p (.loop c) e h
    | some (.exit i, e, h) => some (.exit i, e, h)
    | some (.ret, e, h) => some (.ret, e, h)
    | none => none := by
  refine opt_ext fun r => ?_
  rw [den_iff]
  constructor
  · rintro ⟨n, hn⟩
    cases n with
    | zero => rw [exec] at hn; cases hn
    | succ n =>
      rw [exec] at hn
      cases hx : exec p n c e h with
      | none => rw [hx] at hn; cases hn
      | some q =>
        rw [hx] at hn; rw [(den_iff ..).2 ⟨n, hx⟩]
        obtain ⟨o, e1, h1⟩ := q
        cases o with
        | normal => exact (den_iff ..).2 ⟨n, hn⟩
        | _ => exact hn
  · intro hh
    cases hx : den p c e h with
    | none => rw [hx] at hh; cases hh
    | some q =>
      obtain ⟨n, hn⟩ := (den_iff ..).1 hx
      rw [hx] at hh
      obtain ⟨o, e1, h1⟩ := q
      cases o with
      | normal =>
        obtain ⟨m, hm⟩ := (den_iff ..).1 hh
        exact ⟨max n m + 1, by rw [exec, exec_mono p (Nat.le_max_left _ _) hn]; exact exec_mono p (Nat.le_max_right _ _) hm⟩
      | _ => exact ⟨n + 1, by rw [exec, hn]; exact hh⟩
theorem den_scope (c e h) : den p (.scope c) e h = den p c e h := by
  refine opt_ext fun r => ?_
  rw [den_iff, den_iff]
  constructor
  · rintro ⟨n, hn⟩
    cases n with
    | zero => rw [exec] at hn; cases hn
    | succ n => rw [exec] at hn; exact ⟨n, hn⟩
  · rintro ⟨n, hn⟩; exact ⟨n + 1, by rw [exec]; exact hn⟩
theorem den_frz (ss c e h) : den p (.frz ss c) e h = match frzE e ss with | some e => den p c e h | none => none := by
  refine opt_ext fun r => ?_
  rw [den_iff]
  constructor
  · rintro ⟨n, hn⟩
    cases n with
    | zero => rw [exec] at hn; cases hn
    | succ n =>
      rw [exec] at hn
      cases hx : frzE e ss with
      | none => rw [hx] at hn; cases hn
      | some e1 => rw [hx] at hn; exact (den_iff ..).2 ⟨n, hn⟩
  · intro hh
    cases hx : frzE e ss with
    | none => rw [hx] at hh; cases hh
    | some e1 =>
      rw [hx] at hh
      obtain ⟨n, hn⟩ := (den_iff ..).1 hh
      exact ⟨n + 1, by rw [exec]; simp only [hx]; exact hn⟩
theorem den_frzm (s c e h) : den p (.frzm s c) e h = match e s with
    | .lbox g cs => den p c (e.set s (.lbox g (fzvs (fzH h (fzids cs)) cs))) (fzH h (fzids cs))
    | _ => none := by
  refine opt_ext fun r => ?_
  rw [den_iff]
  constructor
  · rintro ⟨n, hn⟩
    cases n with
    | zero => rw [exec] at hn; cases hn
    | succ n =>
      rw [exec] at hn
      split at hn
      · rename_i g cs hx; simp only [hx]; exact (den_iff ..).2 ⟨n, hn⟩
      · cases hn
  · intro hh
    split at hh
    · rename_i g cs hx
      obtain ⟨n, hn⟩ := (den_iff ..).1 hh
      exact ⟨n + 1, by rw [exec]; simp only [hx]; exact hn⟩
    · cases hh
theorem den_shr (s c e h) : den p (.shr s c) e h = match e s with
    | .lbox _ cs => den p c (e.shr s h.n) (h.new (.cells cs))
    | _ => none := by
  refine opt_ext fun r => ?_
  rw [den_iff]
  constructor
  · rintro ⟨n, hn⟩
    cases n with
    | zero => rw [exec] at hn; cases hn
    | succ n =>
      rw [exec] at hn
      split at hn
      · rename_i g cs hx; simp only [hx]; exact (den_iff ..).2 ⟨n, hn⟩
      · cases hn
  · intro hh
    split at hh
    · rename_i g cs hx
      obtain ⟨n, hn⟩ := (den_iff ..).1 hh
      exact ⟨n + 1, by rw [exec]; simp only [hx]; exact hn⟩
    · cases hh
theorem den_rangeF (f ps asn body e h) : den p (.rangeF f ps asn body) e h = match ev p e f with
    | some f => match dcall p f [.yld h.n] (h.new (.loop ⟨snap e, ps, asn, body, 0, none⟩)) with
      | some (_, h2) => match h2.get h.n with
        | some (.loop r) =>
          if r.state = 1 then none else
          match r.pending with
          | none => some (.normal, e, h2.put h.n (.loop { r with state := 3 }))
          | some c => match pend c with
            | some o => some (o, e, h2.put h.n (.loop { r with state := 3 }))
            | none => none
        | _ => none
      | none => none
    | none => none := by
  refine opt_ext fun r => ?_
  rw [den_iff]
  constructor
  · rintro ⟨n, hn⟩
    cases n with
    | zero => rw [exec] at hn; cases hn
    | succ n =>
      rw [exec] at hn
      cases hf : ev p e f with
      | none => rw [hf] at hn; cases hn
      | some fv =>
        rw [hf] at hn; simp only at hn ⊢
        cases hx : callx p n fv [.yld h.n] (h.new (.loop ⟨snap e, ps, asn, body, 0, none⟩)) with
        | none => rw [hx] at hn; cases hn
        | some q => rw [hx] at hn; rw [(dcall_iff ..).2 ⟨n, hx⟩]; exact hn
  · intro hh
    cases hf : ev p e f with
    | none => rw [hf] at hh; cases hh
    | some fv =>
      rw [hf] at hh; simp only at hh
      cases hx : dcall p fv [.yld h.n] (h.new (.loop ⟨snap e, ps, asn, body, 0, none⟩)) with
      | none => rw [hx] at hh; cases hh
      | some q =>
        obtain ⟨n, hn⟩ := (dcall_iff ..).1 hx
        rw [hx] at hh
        exact ⟨n + 1, by rw [exec]; simp only [hf, hn]; exact hh⟩

theorem dops_nil (e h) : dops p [] e h = some (e, h) := (dops_iff ..).2 ⟨1, by rw [opsx]⟩

/-- a call in a memory of its own -/
noncomputable def icall (f : AV) (vs : List AV) : Option AV :=
  if f.clean && cleans vs then
    match dcall p f vs H.emp with
    | some (v, h') => if (frz3 h' v).clean then some (frz3 h' v) else none
    | none => none
  else none

theorem dops_cons (o : GIns) (os e h) : dops p (o :: os) e h = match wantedA e o.guard with
    | some false => dops p os (e.dst o.dst (.tup [])) h
    | some true => match o.ins with
      | .p i => match stepP p e i with
        | some (v, none) => dops p os (e.dst o.dst v) h
        | some (v, some (s, w)) => dops p os ((e.set s w).dst o.dst v) h
        | none => none
      | .h i => match stepH p e h i with
        | some (v, h) => dops p os (e.dst o.dst v) h
        | none => none
      | .call f args => match ev p e f, evs p e args with
        | some f, some vs => match dcall p f vs h with
          | some (v, h) => dops p os (e.dst o.dst v) h
          | none => none
        | _, _ => none
      | .calli f args => match ev p e f, evs p e args with
        | some f, some vs => match icall p f (vs.map AV.shutv) with
          | some v => dops p os (e.dst o.dst v) h
          | none => none
        | _, _ => none
      | .callf f args => match ev p e f, evs p e args with
        | some f, some vs => match icall p f (vs.map (frz2 h)) with
          | some v => dops p os (e.dst o.dst v) (frzH h (vs.flatMap fids))
          | none => none
        | _, _ => none
    | none => none := by
  refine opt_ext fun r => ?_
  rw [dops_iff]
  constructor
  · rintro ⟨n, hn⟩
    cases n with
    | zero => rw [opsx] at hn; cases hn
    | succ n =>
      rw [opsx] at hn
      have up : ∀ {os e h r}, opsx p n os e h = some r → dops p os e h = some r := fun hh => (dops_iff ..).2 ⟨n, hh⟩
      have upc : ∀ {f vs h r}, callx p n f vs h = some r → dcall p f vs h = some r := fun hh => (dcall_iff ..).2 ⟨n, hh⟩
      split at hn
      · rename_i hw; simp only [hw]; exact up hn
      · rename_i hw
        simp only [hw]
        split at hn
        · rename_i i hi
          simp only [hi]
          split at hn
          · rename_i v hs; simp only [hs]; exact up hn
          · rename_i v s w hs; simp only [hs]; exact up hn
          · cases hn
        · rename_i i hi
          simp only [hi]
          split at hn
          · rename_i v h1 hs; simp only [hs]; exact up hn
          · cases hn
        · rename_i f args hi
          simp only [hi]
          split at hn
          · rename_i fv vs hf hv
            split at hn
            · rename_i v h1 hx
              simp only [hf, hv, upc hx]; exact up hn
            · cases hn
          · cases hn
        · rename_i f args hi
          simp only [hi]
          split at hn
          · rename_i fv vs hf hv
            split at hn
            · rename_i hc
              split at hn
              · rename_i v h1 hx
                split at hn
                · rename_i hcv
                  simp only [hf, hv, icall, hc, if_true, upc hx, hcv]; exact up hn
                · cases hn
              · cases hn
            · cases hn
          · cases hn
        · rename_i f args hi
          simp only [hi]
          split at hn
          · rename_i fv vs hf hv
            split at hn
            · rename_i hc
              split at hn
              · rename_i v h1 hx
                split at hn
                · rename_i hcv
                  simp only [hf, hv, icall, hc, if_true, upc hx, hcv]; exact up hn
                · cases hn
              · cases hn
            · cases hn
          · cases hn
      · cases hn
  · intro hh
    split at hh
    · rename_i hw
      obtain ⟨n, hn⟩ := (dops_iff ..).1 hh
      exact ⟨n + 1, by rw [opsx]; simp only [hw]; exact hn⟩
    · rename_i hw
      split at hh
      · rename_i i hi
        split at hh
        · rename_i v hs
          obtain ⟨n, hn⟩ := (dops_iff ..).1 hh
          exact ⟨n + 1, by rw [opsx]; simp only [hw, hi, hs]; exact hn⟩
        · rename_i v s w hs
          obtain ⟨n, hn⟩ := (dops_iff ..).1 hh
          exact ⟨n + 1, by rw [opsx]; simp only [hw, hi, hs]; exact hn⟩
        · cases hh
      · rename_i i hi
        split at hh
        · rename_i v h1 hs
          obtain ⟨n, hn⟩ := (dops_iff ..).1 hh
          exact ⟨n + 1, by rw [opsx]; simp only [hw, hi, hs]; exact hn⟩
        · cases hh
      · rename_i f args hi
        split at hh
        · rename_i fv vs hf hv
          split at hh
          · rename_i v h1 hx
            obtain ⟨n, hn⟩ := (dops_iff ..).1 hh
            obtain ⟨m, hm⟩ := (dcall_iff ..).1 hx
            exact ⟨max n m + 1, by rw [opsx]; simp only [hw, hi, hf, hv, callx_mono p (Nat.le_max_right n m) hm]; exact opsx_mono p (Nat.le_max_left _ _) hn⟩
          · cases hh
        · cases hh
      · rename_i f args hi
        split at hh
        · rename_i fv vs hf hv
          split at hh
          · rename_i v hx
            obtain ⟨n, hn⟩ := (dops_iff ..).1 hh
            unfold icall at hx
            split at hx
            · rename_i hc
              split at hx
              · rename_i v1 h1 hx1
                split at hx
                · rename_i hcv
                  cases hx
                  obtain ⟨m, hm⟩ := (dcall_iff ..).1 hx1
                  exact ⟨max n m + 1, by rw [opsx]; simp only [hw, hi, hf, hv, hc, if_true, callx_mono p (Nat.le_max_right n m) hm, hcv]; exact opsx_mono p (Nat.le_max_left _ _) hn⟩
                · cases hx
              · cases hx
            · cases hx
          · cases hh
        · cases hh
      · rename_i f args hi
        split at hh
        · rename_i fv vs hf hv
          split at hh
          · rename_i v hx
            obtain ⟨n, hn⟩ := (dops_iff ..).1 hh
            unfold icall at hx
            split at hx
            · rename_i hc
              split at hx
              · rename_i v1 h1 hx1
                split at hx
                · rename_i hcv
                  cases hx
                  obtain ⟨m, hm⟩ := (dcall_iff ..).1 hx1
                  exact ⟨max n m + 1, by rw [opsx]; simp only [hw, hi, hf, hv, hc, if_true, callx_mono p (Nat.le_max_right n m) hm, hcv]; exact opsx_mono p (Nat.le_max_left _ _) hn⟩
                · cases hx
              · cases hx
            · cases hx
          · cases hh
        · cases hh
    · cases hh

theorem dcall_fn (f first cap args h) : dcall p (.fn f first cap) args h = match p.fn f with
    | some F => if (first ++ args ++ cap).length = F.nargs then
        match den p F.body (init (first ++ args ++ cap)) h with
        | some (.normal, e, h) | some (.ret, e, h) => (match results p F e h with | some v => some (v, h) | none => none)
        | _ => none
      else none
    | none => none := by
  refine opt_ext fun r => ?_
  rw [dcall_iff]
  constructor
  · rintro ⟨n, hn⟩
    cases n with
    | zero => rw [callx] at hn; cases hn
    | succ n =>
      rw [callx] at hn
      cases hf : p.fn f with
      | none => rw [hf] at hn; cases hn
      | some F =>
        rw [hf] at hn; simp only at hn ⊢
        split at hn
        · rename_i hl
          rw [if_pos hl]
          cases hx : exec p n F.body (init (first ++ args ++ cap)) h with
          | none => rw [hx] at hn; cases hn
          | some q => rw [hx] at hn; rw [(den_iff ..).2 ⟨n, hx⟩]; exact hn
        · cases hn
  · intro hh
    cases hf : p.fn f with
    | none => rw [hf] at hh; cases hh
    | some F =>
      rw [hf] at hh; simp only at hh
      split at hh
      · rename_i hl
        cases hx : den p F.body (init (first ++ args ++ cap)) h with
        | none => rw [hx] at hh; cases hh
        | some q =>
          obtain ⟨n, hn⟩ := (den_iff ..).1 hx
          rw [hx] at hh
          exact ⟨n + 1, by rw [callx]; simp only [hf, hl, if_true, hn]; exact hh⟩
      · cases hh

theorem dcall_yld (l args h) : dcall p (.yld l) args h = match h.get l with
    | some (.loop r) =>
      if args.length = r.ps.length ∧ r.state = 0 then
        match den p r.asn (setAll r.env r.ps args) h with
        | some (.normal, e, h) => match h.get l with
          | some (.loop r1) =>
            if r1.state = 0 then
              match den p r.body e (h.put l (.loop { r1 with state := 1 })) with
              | some (o, _, h) => match h.get l with
                | some (.loop r) => match o with
                  | .normal => some (.bool true, h.put l (.loop { r with state := 0, pending := none }))
                  | .ret => some (.bool false, h.put l (.loop { r with state := 2, pending := some .ret }))
                  | .exit i => some (.bool false, h.put l (.loop { r with state := 2, pending := some (.exit i) }))
                | _ => none
              | none => none
            else none
          | _ => none
        | _ => none
      else none
    | _ => none := by
  refine opt_ext fun r => ?_
  rw [dcall_iff]
  constructor
  · rintro ⟨n, hn⟩
    cases n with
    | zero => rw [callx] at hn; cases hn
    | succ n =>
      rw [callx] at hn
      split at hn
      · rename_i r0 hr0
        simp only [hr0]
        split at hn
        · rename_i hl
          simp only [hl, and_self, if_true]
          split at hn
          · rename_i e1 h1 hx
            simp only [(den_iff ..).2 ⟨n, hx⟩]
            split at hn
            · rename_i r1 hr1
              simp only [hr1]
              split at hn
              · rename_i hs1
                simp only [hs1, if_true]
                split at hn
                · rename_i o e2 h2 hx2
                  simp only [(den_iff ..).2 ⟨n, hx2⟩]; exact hn
                · cases hn
              · cases hn
            · cases hn
          · cases hn
        · cases hn
      · cases hn
  · intro hh
    split at hh
    · rename_i r0 hr0
      split at hh
      · rename_i hl
        split at hh
        · rename_i e1 h1 hx
          split at hh
          · rename_i r1 hr1
            split at hh
            · rename_i hs1
              split at hh
              · rename_i o e2 h2 hx2
                obtain ⟨n, hn⟩ := (den_iff ..).1 hx
                obtain ⟨m, hm⟩ := (den_iff ..).1 hx2
                exact ⟨max n m + 1, by
                  rw [callx]
                  simp only [hr0, hl, and_self, if_true, exec_mono p (Nat.le_max_left n m) hn, hr1, hs1, exec_mono p (Nat.le_max_right n m) hm]
                  exact hh⟩
              · cases hh
            · cases hh
          · cases hh
        · cases hh
      · cases hh
    · cases hh
end Av
end

section
/- The relation between the interpreter's values and memory, and Go's. -/
namespace Av
open Go

structure Tok where
  c : Nat
  hw : Nat
  ce : Nat

/-- The ghost: objects' blocks; cells that stay; tokens; sizes of objects' blocks. -/
structure Gh where
  ρ : Nat → Option Nat
  G : Nat → Nat → Option Value
  T : Nat → Option Tok
  A : Nat → Option Nat
  M : Nat → Option (Array MapEntry)

structure Gh.le (S S' : Gh) : Prop where
  ρ : ∀ b c, S.ρ b = some c → S'.ρ b = some c
  G : ∀ c o v, S.G c o = some v → S'.G c o = some v
  T : ∀ t i, S.T t = some i → S'.T t = some i
  A : ∀ b n, S.A b = some n → S'.A b = some n
  M : ∀ b n, S.M b = some n → S'.M b = some n

theorem Gh.le.refl (S : Gh) : S.le S := ⟨fun _ _ h => h, fun _ _ _ h => h, fun _ _ h => h, fun _ _ h => h, fun _ _ h => h⟩
theorem Gh.le.trans {S S' S'' : Gh} (h : S.le S') (h' : S'.le S'') : S.le S'' :=
  ⟨fun _ _ x => h'.ρ _ _ (h.ρ _ _ x), fun _ _ _ x => h'.G _ _ _ (h.G _ _ _ x), fun _ _ x => h'.T _ _ (h.T _ _ x), fun _ _ x => h'.A _ _ (h.A _ _ x), fun _ _ x => h'.M _ _ (h.M _ _ x)⟩

def KOK (S : Gh) (k : SK) (c o len cap sz : Nat) : Prop := match k with
  | .exact => cap = len
  | .opn t => 0 < len ∧ len ≤ cap ∧ S.T t = some ⟨c, o + len * sz, o + cap * sz⟩
  | .shut => len ≤ cap

theorem KOK.mono {S S' : Gh} (h : S.le S') {k c o len cap sz} (hk : KOK S k c o len cap sz) : KOK S' k c o len cap sz := by
  cases k with
  | exact => exact hk
  | opn t => exact ⟨hk.1, hk.2.1, h.T _ _ hk.2.2⟩
  | shut => exact hk

inductive VR (S : Gh) : AV → Value → Prop
  | bool (b) : VR S (.bool b) (.bool b)
  | int (k n) : VR S (.int k n) (.int k n)
  | nilp : VR S .nilp (.pointer none)
  | ptr (b off c) (h : S.ρ b = some c) : VR S (.ptr b off) (.pointer (some ⟨c, off, none⟩))
  | cptr (cs c o) (us : Nat → Value) (hG : ∀ i, i < cs.length → S.G c (o + i) = some (us i)) (hV : ∀ i, i < cs.length → VR S (cs.getD i .junk) (us i)) :
      VR S (.cptr cs) (.pointer (some ⟨c, o, none⟩))
  | sl (es k c o len cap sz) (us : Nat → Value) (hl : es.length = len) (hz : ∀ e ∈ es, e.cells.length = sz)
      (hG : ∀ i, i < len * sz → S.G c (o + i) = some (us i))
      (hV : ∀ i j, i < len → j < sz → VR S ((es.getD i .junk).cells.getD j .junk) (us (i * sz + j)))
      (hk : KOK S k c o len cap sz) : VR S (.sl es k) (.slice (some ⟨c, o, none⟩) len cap)
  | slnil (k) (hk : ∀ t, k ≠ .opn t) : VR S (.sl [] k) (.slice none 0 0)
  | msl (b off len sz c cap) (h : S.ρ b = some c) (hc : len ≤ cap) (ha : cap = len ∨ ∃ a, S.A b = some a ∧ off + cap * sz ≤ a) :
      VR S (.msl b off len sz) (.slice (some ⟨c, off, none⟩) len cap)
  | mp (b c) (h : S.ρ b = some c) : VR S (.mp b) (.map (some c))
  | mv (ks vs c) (ents : Array MapEntry) (h : S.M c = some ents) (h1 : ents.size = ks.length) (h2 : vs.length = ks.length)
      (hk : ∀ i, i < ks.length → VR S (ks.getD i .junk) (ents.getD i default).key) (hv : ∀ i, i < ks.length → VR S (vs.getD i .junk) (ents.getD i default).val) :
      VR S (.mv ks vs) (.map (some c))
  | nilm : VR S .nilm (.map none)
  | fn (f first cap) (vs ws : Array Value) (h1 : vs.size = first.length) (h2 : ws.size = cap.length)
      (hv : ∀ i, i < first.length → VR S (first.getD i .junk) (vs.getD i undef)) (hw : ∀ i, i < cap.length → VR S (cap.getD i .junk) (ws.getD i undef)) :
      VR S (.fn f first cap) (.func (.func (f % 1000)) vs ws)
  | nilf : VR S .nilf .nilFunc
  | yld (l c) (h : S.ρ l = some c) : VR S (.yld l) (.func (.yield c) #[] #[])
  | agg (cs) (vs : Array Value) (hl : vs.size = cs.length) (hV : ∀ i, i < cs.length → VR S (cs.getD i .junk) (vs.getD i undef)) : VR S (.agg cs) (.agg vs)
  | tup (cs) (vs : Array Value) (hl : vs.size = cs.length) (hV : ∀ i, i < cs.length → VR S (cs.getD i .junk) (vs.getD i undef)) : VR S (.tup cs) (.tuple vs)
  | junk (v) : VR S .junk v

theorem VR.mono {S S' : Gh} (h : S.le S') {x v} (hv : VR S x v) : VR S' x v := by
  induction hv with
  | bool b => exact .bool b
  | int k n => exact .int k n
  | nilp => exact .nilp
  | ptr b off c hh => exact .ptr b off c (h.ρ _ _ hh)
  | cptr cs c o us hG _ ih => exact .cptr cs c o us (fun i hi => h.G _ _ _ (hG i hi)) ih
  | sl es k c o len cap sz us hl hz hG _ hk ih => exact .sl es k c o len cap sz us hl hz (fun i hi => h.G _ _ _ (hG i hi)) ih (hk.mono h)
  | slnil k hk => exact .slnil k hk
  | msl b off len sz c cap hh hc ha => exact .msl b off len sz c cap (h.ρ _ _ hh) hc (ha.imp id fun ⟨a, h1, h2⟩ => ⟨a, h.A _ _ h1, h2⟩)
  | mp b c hh => exact .mp b c (h.ρ _ _ hh)
  | mv ks vs c ents hh h1 h2 _ _ ih1 ih2 => exact .mv ks vs c ents (h.M _ _ hh) h1 h2 ih1 ih2
  | nilm => exact .nilm
  | fn f first cap vs ws h1 h2 _ _ ih1 ih2 => exact .fn f first cap vs ws h1 h2 ih1 ih2
  | nilf => exact .nilf
  | yld l c hh => exact .yld l c (h.ρ _ _ hh)
  | agg cs vs hl _ ih => exact .agg cs vs hl ih
  | tup cs vs hl _ ih => exact .tup cs vs hl ih
  | junk v => exact .junk v

/-- lists of values -/
def VRs (S : Gh) (xs : List AV) (vs : List Value) : Prop := vs.length = xs.length ∧ ∀ i, i < xs.length → VR S (xs.getD i .junk) (vs.getD i undef)
theorem VRs.mono {S S' : Gh} (h : S.le S') {xs vs} (hv : VRs S xs vs) : VRs S' xs vs := ⟨hv.1, fun i hi => (hv.2 i hi).mono h⟩
theorem VRs.nil {S : Gh} : VRs S [] [] := ⟨rfl, fun i hi => absurd hi (by simp)⟩
theorem VRs.cons {S : Gh} {x v xs vs} (h : VR S x v) (hs : VRs S xs vs) : VRs S (x :: xs) (v :: vs) :=
  ⟨by simp [hs.1], fun i hi => by
    cases i with
    | zero => exact h
    | succ i => exact hs.2 i (by simpa using hi)⟩
theorem VRs.append {S : Gh} {xs vs ys ws} (h : VRs S xs vs) (hs : VRs S ys ws) : VRs S (xs ++ ys) (vs ++ ws) := by
  induction xs generalizing vs with
  | nil => cases vs with
    | nil => exact hs
    | cons _ _ => have := h.1; simp at this
  | cons x xs ih => cases vs with
    | nil => have := h.1; simp at this
    | cons v vs =>
      have h0 := h.2 0 (by simp)
      exact .cons h0 (ih ⟨by simpa using h.1, fun i hi => h.2 (i + 1) (by simpa using hi)⟩)
theorem VRs.head {S : Gh} {x v xs vs} (h : VRs S (x :: xs) (v :: vs)) : VR S x v := h.2 0 (by simp)
theorem VRs.tail {S : Gh} {x v xs vs} (h : VRs S (x :: xs) (v :: vs)) : VRs S xs vs := ⟨by simpa using h.1, fun i hi => h.2 (i + 1) (by simpa using hi)⟩
theorem VRs.get {S : Gh} {xs vs} (h : VRs S xs vs) {i : Nat} {x : AV} (hx : xs[i]? = some x) : ∃ v, vs[i]? = some v ∧ VR S x v := by
  have hi : i < xs.length := (List.getElem?_eq_some_iff.1 hx).1
  have hv := h.2 i hi
  have hl : i < vs.length := by have := h.1; omega
  refine ⟨vs[i], List.getElem?_eq_getElem hl, ?_⟩
  rw [List.getD_eq_getElem?_getD, List.getD_eq_getElem?_getD, hx, List.getElem?_eq_getElem hl] at hv
  exact hv
theorem VRs.of {S : Gh} {xs : List AV} {vs : List Value} (hl : vs.length = xs.length) (h : ∀ (i : Nat) (x : AV) (v : Value), xs[i]? = some x → vs[i]? = some v → VR S x v) : VRs S xs vs :=
  ⟨hl, fun i hi => by
    rw [List.getD_eq_getElem?_getD, List.getD_eq_getElem?_getD, List.getElem?_eq_getElem hi, List.getElem?_eq_getElem (by omega : i < vs.length)]
    exact h i _ _ (List.getElem?_eq_getElem hi) (List.getElem?_eq_getElem (by omega))⟩
theorem VRs.take {S : Gh} {xs vs} (h : VRs S xs vs) (n : Nat) : VRs S (xs.take n) (vs.take n) := by
  refine .of (by simp [h.1]) fun i x v hx hv => ?_
  rw [List.getElem?_take] at hx hv
  split at hx
  · rename_i hlt
    rw [if_pos hlt] at hv
    obtain ⟨u, hu, hr⟩ := h.get hx
    rw [hu] at hv; cases hv; exact hr
  · cases hx
theorem VRs.drop {S : Gh} {xs vs} (h : VRs S xs vs) (n : Nat) : VRs S (xs.drop n) (vs.drop n) := by
  refine .of (by simp [h.1]) fun i x v hx hv => ?_
  rw [List.getElem?_drop] at hx hv
  obtain ⟨u, hu, hr⟩ := h.get hx
  rw [hu] at hv; cases hv; exact hr
theorem VR.agg' {S : Gh} {cs vs} (h : VRs S cs vs) : VR S (.agg cs) (.agg vs.toArray) :=
  .agg cs _ (by simpa using h.1) fun i hi => by have := h.2 i hi; simpa using this
theorem VR.tup' {S : Gh} {cs vs} (h : VRs S cs vs) : VR S (.tup cs) (.tuple vs.toArray) :=
  .tup cs _ (by simpa using h.1) fun i hi => by have := h.2 i hi; simpa using this
theorem VR.agg_inv {S : Gh} {cs v} (h : VR S (.agg cs) v) : ∃ vs, v = .agg vs ∧ VRs S cs vs.toList := by
  cases h with
  | agg _ vs hl hV => exact ⟨vs, rfl, by simpa using hl, fun i hi => by have := hV i hi; simpa using this⟩
theorem VR.tup_inv {S : Gh} {cs v} (h : VR S (.tup cs) v) : ∃ vs, v = .tuple vs ∧ VRs S cs vs.toList := by
  cases h with
  | tup _ vs hl hV => exact ⟨vs, rfl, by simpa using hl, fun i hi => by have := hV i hi; simpa using this⟩
theorem VR.bool_inv {S : Gh} {b v} (h : VR S (.bool b) v) : v = .bool b := by cases h; rfl
theorem VR.int_inv {S : Gh} {k n v} (h : VR S (.int k n) v) : v = .int k n := by cases h; rfl
theorem VR.ptr_inv {S : Gh} {b off v} (h : VR S (.ptr b off) v) : ∃ c, S.ρ b = some c ∧ v = .pointer (some ⟨c, off, none⟩) := by cases h with | ptr _ _ c hh => exact ⟨c, hh, rfl⟩

/-- a value's cells -/
theorem VR.cells {S : Gh} {x v} (h : VR S x v) (hx : x ≠ .junk) : VRs S x.cells v.cells.toList := by
  cases h with
  | agg cs vs hl hV => exact ⟨by simpa [AV.cells, Value.cells] using hl, fun i hi => by have := hV i hi; simpa [AV.cells, Value.cells] using this⟩
  | junk v => exact absurd rfl hx
  | _ => refine .cons ?_ .nil; first | constructor <;> assumption | (constructor; done)

theorem add_mk (c o n : Nat) : (⟨c, o, none⟩ : Addr).add n = ⟨c, o + n, none⟩ := by
  unfold Addr.add; split
  · rename_i h; subst h; rfl
  · rfl

/-- an object of memory that its owner may write -/
def AObj.own : AObj → Bool
  | .cells _ | .mp _ | .loop _ => true
  | _ => false

section
variable (chk : Nat → List Nat → Code → ACode → Bool)

structure LoopR (S : Gh) (r : Loop) (L : Go.Loop) : Prop where
  state : L.state = (match r.state with | 0 => .ready | 1 => .busy | 2 => .done | _ => .exhausted)
  le : r.state ≤ 3
  params : L.params.toList = r.ps
  chk : ∃ B, chk L.tmps.size B L.assign r.asn = true ∧ chk L.tmps.size B L.body r.body = true ∧ ∀ k ∈ r.ps, k ∉ B
  ps : ∀ k ∈ r.ps, k < L.tmps.size
  env : ∀ (k : Nat) (v : Value), L.tmps[k]? = some v → VR S (r.env k) v
  okv : ∀ k, (r.env k).okv = true
  pend : match r.pending with
    | none => L.pending = none
    | some c => ∃ o, Av.pend c = some o ∧ L.pending = some (match o with | .exit i => .exit i | _ => .ret) ∧ o ≠ .normal

/-- a map's entries -/
def ER (S : Gh) (es : List (AV × AV)) (ents : Array MapEntry) : Prop := ents.size = es.length ∧
  ∀ i, i < es.length → VR S (es.getD i (.junk, .junk)).1 (ents.getD i default).key ∧ VR S (es.getD i (.junk, .junk)).2 (ents.getD i default).val

/-- entries are numbered as they came -/
def BornOK (ents : Array MapEntry) (clock : Nat) : Prop := clock = ents.size ∧ ∀ i, i < ents.size → (ents.getD i default).born = i

def OR (S : Gh) (w : World) (b c : Nat) : AObj → Prop
  | .cells cs => ∃ arr e, w.heap[c]? = some (.cells arr e (0, 0)) ∧ cs.length ≤ arr.size ∧ (∀ a, S.A b = some a → a = arr.size) ∧
      ∀ i, i < cs.length → VR S (cs.getD i .junk) (arr.getD i undef)
  | .frz cs => ∀ i, i < cs.length → ∃ v, S.G c i = some v ∧ VR S (cs.getD i .junk) v
  | .mp es => ∃ ents clock, w.heap[c]? = some (.map ents clock) ∧ ER S es ents ∧ BornOK ents clock
  | .fmp es => ∃ ents, S.M c = some ents ∧ ER S es ents
  | .loop r => ∃ L, w.heap[c]? = some (.loop L) ∧ LoopR chk S r L
  | .tok => True
  | .dead => True

def owned (S : Gh) (H : H) (c : Nat) : Prop := ∃ b o, S.ρ b = some c ∧ H.get b = some o ∧ o.own = true
def tokOf (S : Gh) (H : H) (c : Nat) : Prop := ∃ t i, H.get t = some .tok ∧ S.T t = some i ∧ i.c = c
def own (S : Gh) (H : H) (c : Nat) : Prop := owned S H c ∨ tokOf S H c

structure WR (gl : Nat → List AV) (S : Gh) (H : H) (w : World) : Prop where
  dom : ∀ b c, S.ρ b = some c → c < w.heap.size ∧ ∃ o, H.get b = some o ∧ OR chk S w b c o
  inj : ∀ b b' c o o', S.ρ b = some c → S.ρ b' = some c → H.get b = some o → o.own = true → H.get b' = some o' → o'.own = true → b = b'
  G : ∀ c o v, S.G c o = some v → w.cell? ⟨c, o, none⟩ = some v
  Gown : ∀ c o v, S.G c o = some v → ¬ owned S H c
  M : ∀ c ents, S.M c = some ents → ∃ clock, w.heap[c]? = some (.map ents clock)
  Mown : ∀ c ents, S.M c = some ents → ¬ owned S H c
  tok : ∀ t, H.get t = some .tok → ∃ i arr e, S.T t = some i ∧ w.heap[i.c]? = some (.cells arr e (0, 0)) ∧ i.ce ≤ arr.size ∧
    (∀ o v, S.G i.c o = some v → o < i.hw) ∧ ¬ owned S H i.c
  tokinj : ∀ t t' i i', H.get t = some .tok → H.get t' = some .tok → S.T t = some i → S.T t' = some i' → i.c = i'.c → t = t'
  fresh : ∀ b, H.n ≤ b → S.ρ b = none ∧ S.T b = none ∧ S.A b = none ∧ H.get b = none
  glob : ∀ g i, i < (gl g).length → ∃ v, S.G g i = some v ∧ VR S ((gl g).getD i .junk) v
end
end Av
end

section
/- Is a lowered text one of a text of the program? A test that the kernel makes. -/
namespace Av
open Go

def cm1 : AV → Value → Bool
  | .bool b, .bool c => b == c
  | .int k n, .int j m => k == j && n == m
  | .nilp, .pointer none => true
  | .sl [] .exact, .slice none 0 0 => true
  | .nilm, .map none => true
  | .nilf, .nilFunc => true
  | _, _ => false
def cms : List AV → List Value → Bool
  | [], [] => true
  | x :: xs, v :: vs => cm1 x v && cms xs vs
  | _, _ => false
def cmatch : AV → Value → Bool
  | .agg cs, .agg vs => cms cs vs.toList
  | .tup cs, .tuple vs => cms cs vs.toList
  | x, v => cm1 x v

section
variable (P : Program) (N : Nat) (B : List Nat)

def chkX : Operand → Opd → Bool
  | .tmp n, .t m => n == m && decide (n < N)
  | .const v, .c w => cmatch w v
  | .global g, .g h => g == h
  | .func f, .f h => h % 1000 == f
  | _, _ => false
def chkXs : List Operand → List Opd → Bool
  | [], [] => true
  | x :: xs, y :: ys => chkX N x y && chkXs xs ys
  | _, _ => false
def chkO : Option Operand → Option Opd → Bool
  | none, none => true
  | some x, some y => chkX N x y
  | _, _ => false

def szOf (t n : Nat) : Bool := match P.info? t with | some i => i.size == n | none => false
def zmatch (t : Nat) (zs : List AV) : Bool := match P.info? t with
  | some i => (match i.zero with | some z => cms zs z.cells.toList | none => false) && i.size == zs.length
  | none => false
def aggT (t : Nat) (agg : Bool) : Bool := match P.underlying t with
  | some (.struct _) | some (.array _ _) => agg
  | some _ => !agg
  | none => false
/-- a type of n cells that is loaded so -/
def ldT (t n : Nat) (agg : Bool) : Bool := szOf P t n && aggT P t agg && (agg || n == 1)
def fld (st f off : Nat) : Option TypeId := match P.underlying st with
  | some (.struct fs) => match fs[f]? with
    | some f => if f.offset = off then some f.type else none
    | none => none
  | _ => none
def arrT (t len sz : Nat) : Option TypeId := match P.underlying t with
  | some (.array l e) => if l = len ∧ szOf P e sz = true then some e else none
  | _ => none
def slT (t sz : Nat) : Option TypeId := match P.underlying t with
  | some (.slice e) => if szOf P e sz = true then some e else none
  | _ => none
def place (t i off n : Nat) : Bool := match P.underlying t with
  | some (.struct fs) => match fs[i]? with
    | some f => f.offset == off && szOf P f.type n
    | none => false
  | some (.array _ e) => szOf P e n && off == i * n
  | _ => false
/-- every field's type has a size -/
def sized (t : Nat) : Bool := match P.underlying t with
  | some (.struct fs) => fs.all fun f => (P.info? f.type).isSome
  | some (.array _ e) => (P.info? e).isSome
  | _ => false
def chkParts (t : Nat) : List (Nat × Operand) → List (Nat × Nat × Opd) → Bool
  | [], [] => true
  | (i, y) :: ps, (off, n, x) :: qs => place P t i off n && chkX N y x && chkParts t ps qs
  | _, _ => false
def chkEls : List (Nat × Operand) → List (Nat × Opd) → Bool
  | [], [] => true
  | (i, y) :: ps, (j, x) :: qs => i == j && chkX N y x && chkEls ps qs
  | _, _ => false
/-- a struct or an array of n numbers alone -/
def flatA (t n : Nat) : Bool := match P.underlying t with
  | some (.struct fs) => !P.stoodInHeld t && !P.eqGuardType P.depth t && fs.size == n &&
      (fs.toList.zipIdx.all fun q => q.1.name != "_" && q.1.offset == q.2 && ldT P q.1.type 1 false &&
        (match P.underlying q.1.type with | some (.int _) => true | _ => false))
  | some (.array m e) => m == n && !P.eqGuardType P.depth t && ldT P e 1 false && (match P.underlying e with | some (.int _) => true | _ => false)
  | _ => false
def keyT (t n : Nat) : Bool := flatA P t n && (match P.underlying t with | some (.struct _) => true | _ => false)

def chkP (o : Oper) : PIns → Bool
  | .mov x => match o.op with | .move y => chkX N y x | .assign y => chkX N y x | _ => false
  | .pick c a b => match o.op with | .pick c' a' b' => chkX N c' c && chkX N a' a && chkX N b' b | _ => false
  | .allocL s zs => match o.op with | .alloc t => o.dst == some s && zmatch P t zs | _ => false
  | .boxL s x => match o.op with | .box _ y => o.dst == some s && chkX N y x | _ => false
  | .build zs ps => match o.op with | .build t parts => zmatch P t zs && sized P t && chkParts P N t parts.toList ps | _ => false
  | .bslice sz zs len ps => match o.op with
    | .buildSlice t l parts => (match slT P t sz with | some e => zmatch P e zs | none => false) && l == len && zs.length == sz && decide (0 < sz) && decide (len * sz ≤ 2 ^ 24) && chkEls N parts.toList ps
    | _ => false
  | .lad s off => match o.op with | .fieldAddr st (.tmp k) f => k == s && decide (s < N) && B.contains s && (match fld P st f off with | some t => !szOf P t 0 && (P.info? t).isSome | none => false) | _ => false
  | .faddr off a => match o.op with | .fieldAddr st y f => chkX N y a && (match fld P st f off with | some t => !szOf P t 0 && (P.info? t).isSome | none => false) | _ => false
  | .iaddr arr sz x i => match o.op with
    | .indexAddr t y j => chkX N y x && chkX N j i && (match arr with | some len => (arrT P t len sz).isSome | none => (slT P t sz).isSome)
    | _ => false
  | .ladi s len sz i => match o.op with
    | .indexAddr t (.tmp k) j => k == s && decide (s < N) && B.contains s && chkX N j i && (arrT P t len sz).isSome
    | _ => false
  | .loadL s n agg a => match o.op with
    | .load t (.tmp k) => ldT P t n agg && decide (s < N) && B.contains s && decide (k < N) && (match a with | none => k == s | some (.t j) => k == j | _ => false)
    | _ => false
  | .storeL s n a x => match o.op with
    | .store t (.tmp k) y => szOf P t n && chkX N y x && decide (s < N) && decide (k < N) && (match a with | none => k == s | some (.t j) => k == j | _ => false)
    | _ => false
  | .loadC n agg a => match o.op with
    | .load t y => ldT P t n agg && chkX N y a
    | _ => false
  | .lookupV n z m k => match o.op with
    | .lookup t m' k' false => chkX N m' m && chkX N k' k && (match P.underlying t with
        | some (.map kt et) => keyT P kt n && (match P.info? et with | some i => (match i.zero with | some zv => cmatch z zv | none => false) | none => false)
        | _ => false)
    | _ => false
  | .bin op x y => match o.op with
    | .binOp op' t x' y' _ => op == op' && chkX N x' x && chkX N y' y
    | _ => false
  | .eqn k neg x y => match o.op with
    | .binOp op t x' y' _ => (match op with | .eql => !neg | .neq => neg | _ => false) && chkX N x' x && chkX N y' y && (match k with | none => (match P.underlying t with | some .bool => true | _ => false) | some n => flatA P t n)
    | _ => false
  | .un op x => match o.op with | .unOp op' _ y => op == op' && chkX N y x | _ => false
  | .index len sz agg x i => match o.op with
    | .index t y j => chkX N y x && chkX N j i && (match arrT P t len sz with | some e => ldT P e sz agg | none => false)
    | _ => false
  | .field off n agg x => match o.op with
    | .field t y f => chkX N y x && (match fld P t f off with | some e => ldT P e n agg | none => false)
    | _ => false
  | .slice sz x lo hi mx => match o.op with
    | .slice t y lo' hi' mx' => chkX N y x && chkO N lo' lo && chkO N hi' hi && chkO N mx' mx && (mx.isNone || hi.isSome) &&
        (slT P t sz).isSome
    | _ => false
  | .slica .. => false
  | .slicL s n sz a => match o.op with
    | .slice t (.tmp k) none none none => (arrT P t n sz).isSome && decide (s < N) && B.contains s && decide (k < N) && (match a with | .t j => k == j | _ => false)
    | _ => false
  | .mkfn f first cap => match o.op with
    | .makeFunc (.func g) a b => f % 1000 == g && chkXs N a.toList first && chkXs N b.toList cap
    | _ => false
  | .extract x i => match o.op with | .extract y j => i == j && chkX N y x | _ => false
  | .len x => match o.op with
    | .call c => (match c.callee with | .builtin .len => true | _ => false) && chkXs N c.args.toList [x] &&
        (match c.argTypes.toList with | [t] => (match P.underlying t with | some (.slice _) => true | _ => false) | _ => false)
    | _ => false
  | .mn xs => match o.op with
    | .call c => (match c.callee with | .builtin .min => true | _ => false) && chkXs N c.args.toList xs
    | _ => false
  | .mx xs => match o.op with
    | .call c => (match c.callee with | .builtin .max => true | _ => false) && chkXs N c.args.toList xs
    | _ => false
  | .nilchk x => match o.op with | .nilCheck y => chkX N y x | _ => false

def byOf (t n : Nat) : Bool := match P.info? t with | some i => i.bytes == n && decide (0 < n) | none => false
/-- an append's types -/
def appT (c : Call) (sz bytes : Nat) : Bool := match c.argTypes.toList with
  | [t, u] => (match P.underlying t with | some (.slice e) => szOf P e sz && byOf P e bytes && decide (0 < sz) && (match P.info? e with | some i => (match i.zero with | some z => z.cells.size == sz | none => false) | none => false) | _ => false) &&
      (match P.underlying u with | some (.slice _) => true | _ => false)
  | _ => false
/-- the types of an append of zeros -/
def appZ (c : Call) (sz bytes : Nat) (zs : List AV) : Bool := match c.argTypes.toList with
  | [t, u] => (match P.underlying t with | some (.slice e) => szOf P e sz && byOf P e bytes && decide (0 < sz) && zmatch P e zs | _ => false) &&
      (match P.underlying u with | some (.int _) => true | _ => false)
  | _ => false
def chkH (o : Oper) : HIns → Bool
  | .alloc zs => match o.op with | .alloc t => zmatch P t zs | _ => false
  | .box _ => false
  | .lookup n z m k => match o.op with
    | .lookup t m' k' false => chkX N m' m && chkX N k' k && (match P.underlying t with
        | some (.map kt et) => keyT P kt n && (match P.info? et with | some i => (match i.zero with | some zv => cmatch z zv && z.flat | none => false) | none => false)
        | _ => false)
    | _ => false
  | .bsliceM sz zs len ps => match o.op with
    | .buildSlice t l parts => (match slT P t sz with | some e => zmatch P e zs | none => false) && l == len && zs.length == sz && decide (0 < sz) && decide (len * sz ≤ 2 ^ 24) && chkEls N parts.toList ps
    | _ => false
  | .loadz n a => match o.op with | .load t y => ldT P t n true && chkX N y a | _ => false
  | .appendZ sz bytes zs s n => match o.op with
    | .call c => (match c.callee with | .builtin .append => true | _ => false) && appZ P c sz bytes zs && chkXs N c.args.toList [s, .c (.int .i64 n)] && decide (n ≤ 1048576)
    | _ => false
  | .load n agg a => match o.op with | .load t y => ldT P t n agg && chkX N y a | _ => false
  | .store n a x => match o.op with | .store t y z => szOf P t n && chkX N y a && chkX N z x | _ => false
  | .mslice sz zs l c => match o.op with
    | .makeSlice t l' c' => chkX N l' l && chkX N c' c && (match slT P t sz with | some e => zmatch P e zs && (match P.info? e with | some i => decide (i.bytes ≤ 1048576) | none => false) | none => false) && zs.length == sz && decide (0 < sz)
    | _ => false
  | .mkmap => match o.op with | .makeMap _ none => true | .makeMap t (some (.const (.int _ _))) => (match P.underlying t with | some (.map _ _) => true | _ => false) | _ => false
  | .mapupd n m k v => match o.op with
    | .mapUpdate t m' k' v' | .insert t m' k' v' => chkX N m' m && chkX N k' k && chkX N v' v && (match P.underlying t with | some (.map kt _) => keyT P kt n | _ => false)
    | _ => false
  | .lookup2 n z m k => match o.op with
    | .lookup t m' k' true => chkX N m' m && chkX N k' k && (match P.underlying t with
        | some (.map kt et) => keyT P kt n && (match P.info? et with | some i => (match i.zero with | some zv => cmatch z zv && z.flat | none => false) | none => false)
        | _ => false)
    | _ => false
  | .mapent n z m k => match o.op with
    | .mapEntry t m' k' => chkX N m' m && chkX N k' k && (match P.underlying t with
        | some (.map kt et) => keyT P kt n && (match P.info? et with | some i => (match i.zero with | some zv => cmatch z zv && z.flat | none => false) | none => false)
        | _ => false)
    | _ => false
  | .entst m i v => match o.op with
    | .entryStore _ m' i' v' => chkX N m' m && chkX N i' i && chkX N v' v
    | _ => false
  | .append sz bytes s x | .appendM sz bytes s x | .appendC sz bytes s x => match o.op with
    | .call c => (match c.callee with | .builtin .append => true | _ => false) && appT P c sz bytes && chkXs N c.args.toList [s, x]
    | _ => false

def chkCall (o : Oper) (f : Opd) (args : List Opd) : Bool := match o.op with
  | .call c => (match c.callee with | .value g => chkX N g f | _ => false) && chkXs N c.args.toList args
  | _ => false
def chkIns (o : Oper) : Ins → Bool
  | .p i => chkP P N B o i
  | .h i => chkH P N o i
  | .call f args | .calli f args => chkCall N o f args
  | .callf _ _ => false

def isBox : Ins → Bool
  | .p (.allocL ..) | .p (.boxL ..) => true
  | _ => false
def chkG (ops : Array Oper) (o : Oper) (g : GIns) : Bool :=
  o.dst == g.dst &&
  (match g.dst with | some d => decide (d < N) && (B.contains d == isBox g.ins) | none => !isBox g.ins) &&
  (match g.ins with | .p (.storeL s ..) => B.contains s && g.dst.isNone | .h (.store ..) | .h (.mapupd ..) | .h (.entst ..) => g.dst.isNone | _ => true) &&
  (match o.guard, g.guard with
   | none, none => true
   | some (j, w), some (s, w') => w == w' && decide (s < N) && !isBox g.ins && (match ops[j]? with | some q => q.dst == some s | none => false)
   | _, _ => false) &&
  chkIns P N B o g.ins
def chkGs (ops : Array Oper) : List Oper → List GIns → Bool
  | [], [] => true
  | o :: os, g :: gs => chkG P N B ops o g && chkGs ops os gs
  | _, _ => false

/-- the slots that an operand names -/
def Opd.sl : Opd → List Nat
  | .t n => [n]
  | _ => []
def opsl (xs : List Opd) : List Nat := xs.flatMap Opd.sl
def osl : Option Opd → List Nat
  | some x => x.sl
  | none => []
def PIns.rd : PIns → List Nat
  | .mov x => x.sl
  | .pick c a b => c.sl ++ a.sl ++ b.sl
  | .allocL s _ => [s]
  | .boxL s x => s :: x.sl
  | .build _ ps => opsl (ps.map (·.2.2))
  | .bslice _ _ _ ps => opsl (ps.map (·.2))
  | .lad s _ => [s]
  | .faddr _ a => a.sl
  | .iaddr _ _ x i => x.sl ++ i.sl
  | .ladi s _ _ i => s :: i.sl
  | .loadL s _ _ a => s :: osl a
  | .storeL s _ a x => s :: (osl a ++ x.sl)
  | .loadC _ _ a => a.sl
  | .lookupV _ _ m k => m.sl ++ k.sl
  | .bin _ x y => x.sl ++ y.sl
  | .eqn _ _ x y => x.sl ++ y.sl
  | .un _ x => x.sl
  | .index _ _ _ x i => x.sl ++ i.sl
  | .field _ _ _ x => x.sl
  | .slice _ x lo hi m => x.sl ++ osl lo ++ osl hi ++ osl m
  | .slica _ _ a => a.sl
  | .slicL s _ _ a => s :: a.sl
  | .mkfn _ a b => opsl a ++ opsl b
  | .extract x _ => x.sl
  | .len x => x.sl
  | .mn xs | .mx xs => opsl xs
  | .nilchk x => x.sl
def HIns.rd : HIns → List Nat
  | .alloc _ => []
  | .box x => x.sl
  | .load _ _ a => a.sl
  | .store _ a x => a.sl ++ x.sl
  | .bsliceM _ _ _ ps => opsl (ps.map (·.2))
  | .mslice _ _ l c => l.sl ++ c.sl
  | .mkmap => []
  | .lookup _ _ m k => m.sl ++ k.sl
  | .mapupd _ m k v => m.sl ++ k.sl ++ v.sl
  | .append _ _ s x | .appendM _ _ s x | .appendC _ _ s x => s.sl ++ x.sl
  | .loadz _ a => a.sl
  | .appendZ _ _ _ s _ => s.sl
  | .lookup2 _ _ m k | .mapent _ _ m k => m.sl ++ k.sl
  | .entst m i v => m.sl ++ i.sl ++ v.sl
def Ins.rd : Ins → List Nat
  | .p i => i.rd
  | .h i => i.rd
  | .call f as | .calli f as | .callf f as => f.sl ++ opsl as
def GIns.rd (g : GIns) : List Nat := (match g.guard with | some (s, _) => [s] | none => []) ++ g.ins.rd
def GIns.wr (g : GIns) : List Nat := (match g.dst with | some d => [d] | none => []) ++ (match g.ins with | .p (.storeL s ..) => [s] | _ => [])
/-- 0: temporaries alone; 1: reads memory; 2: makes a token; 3: any -/
def Ins.cls : Ins → Nat
  | .p _ | .calli .. => 0
  | .h (.load ..) => 1
  | .h (.append ..) => 2
  | _ => 3
def compat (a b : Nat) : Bool := a == 0 || b == 0 || (a == 1 && b == 1) || (a == 1 && b == 2) || (a == 2 && b == 1)
def disj (xs ys : List Nat) : Bool := xs.all fun x => !ys.contains x
/-- a box is written, and a place in it named -/
def stlad : GIns → GIns → Bool
  | ⟨none, .p (.storeL s _ a x), none⟩, ⟨some d, .p (.lad s' _), none⟩ => s == s' && !(s :: (osl a ++ x.sl)).contains d
  | _, _ => false
def indep (g g' : GIns) : Bool := (disj g.wr (g'.rd ++ g'.wr) && disj g'.wr g.rd && compat g.ins.cls g'.ins.cls) || stlad g g'

/-- what is surely done before each operation (a set of bits each) -/
def befs (ops : List Oper) : List Nat :=
  ops.foldl (init := []) fun acc o => acc ++ [o.after.toList.foldl (fun s e => if Region.binds .any e then s ||| 2 ^ e.on ||| acc.getD e.on 0 else s) 0]
/-- each of those bits has its ground -/
def befsOK (ops : Array Oper) (b : List Nat) : Bool :=
  (List.range ops.size).all fun i => (List.range ops.size).all fun j => !(b.getD i 0).testBit j ||
    (match ops[i]? with | some o => o.after.toList.any fun e => Region.binds .any e && (e.on == j || (b.getD e.on 0).testBit j) | none => false)
def drawOK (ops : Array Oper) (gs : List GIns) : Bool :=
  let b := befs ops.toList
  (ops.toList.zipIdx.all fun q => q.1.after.toList.all fun e => !Region.binds .any e || decide (e.on < q.2)) && befsOK ops b &&
  (gs.zipIdx.all fun q => gs.zipIdx.all fun r => decide (r.2 ≤ q.2) || (b.getD r.2 0).testBit q.2 || indep q.1 r.1)

end


def chkC (P : Program) (N : Nat) (B : List Nat) : Code → ACode → Bool
  | c, .frz ss d => ss.all (fun s => B.contains s && decide (s < N)) && chkC P N B c d
  | c, .frzm s d => B.contains s && decide (s < N) && chkC P N B c d
  | c, .shr s d => B.contains s && decide (s < N) && chkC P N B c d
  | .skip, .skip => true
  | .label _, .skip => true
  | .ret, .ret => true
  | .exit i, .exit j => i == j
  | .region _ ops draw, .reg gs => chkGs P N B ops ops.toList gs && (!draw || drawOK ops gs)
  | .seq a b, .seq c d => chkC P N B a c && chkC P N B b d
  | .cond x a b, .cond y c d => chkX N x y && chkC P N B a c && chkC P N B b d
  | .block i c, .block j d => i == j && chkC P N B c d
  | .loop c, .loop d => chkC P N B c d
  | .scope c, .scope d => chkC P N B c d
  | .rangeFunc f ps a c, .rangeF g qs b d => chkX N f g && (ps.toList == qs) && (qs.all fun k => decide (k < N) && !B.contains k) && chkC P N B a b && chkC P N B c d
  | _, _ => false

def chkRes (P : Program) (N : Nat) (B : List Nat) : List ResultVar → List Res → Bool
  | [], [] => true
  | .tmp k :: rs, .t j :: qs => k == j && decide (k < N) && chkRes P N B rs qs
  | .cell k t :: rs, .cell j n agg :: qs => k == j && decide (k < N) && ldT P t n agg && chkRes P N B rs qs
  | .cell k t :: rs, .cellL j n agg :: qs => k == j && decide (k < N) && B.contains k && ldT P t n agg && chkRes P N B rs qs
  | _, _ => false
def boxes : ACode → List Nat
  | .reg gs => gs.filterMap fun g => match g.ins with | .p (.allocL s _) | .p (.boxL s _) => some s | _ => none
  | .seq a b | .cond _ a b => boxes a ++ boxes b
  | .block _ c | .loop c | .scope c | .frz _ c | .frzm _ c | .shr _ c => boxes c
  | .rangeF _ _ a c => boxes a ++ boxes c
  | _ => []
def chkF (P : Program) (f : Func) (F : AFn) : Bool :=
  (match f.body with | some c => chkC P f.ntmps (boxes F.body) c F.body | none => false) && f.params.size + f.nfree == F.nargs && decide (F.nargs ≤ f.ntmps) &&
  ((boxes F.body).all fun s => decide (F.nargs ≤ s)) && chkRes P f.ntmps (boxes F.body) f.results.toList F.res
end Av
end

section
/- A frame's temporaries and its own boxes; what a step may turn in memory. -/
namespace Av
open Go

structure FR (N : Nat) (B : List Nat) (S : Gh) (Pv : Nat → Option Nat) (e : Env) (tmps : Array Value) (w : World) : Prop where
  size : tmps.size = N
  val : ∀ k, k < N → (e k).okv = true → VR S (e k) (tmps.getD k undef)
  lb : ∀ k g cs, k < N → e k = .lbox g cs → ∃ c arr t, Pv k = some c ∧ tmps.getD k undef = .pointer (some ⟨c, 0, none⟩) ∧
    w.heap[c]? = some (.cells arr t (0, 0)) ∧ VRs S cs arr.toList
  fb : ∀ k g cs, k < N → e k = .fbox g cs → VR S (.cptr cs) (tmps.getD k undef) ∧ ∃ c, tmps.getD k undef = .pointer (some ⟨c, 0, none⟩)
  lp : ∀ k s g off, k < N → e k = .lptr s g off → s < N ∧ ∃ g' cs, (e s = .lbox g' cs ∨ e s = .fbox g' cs) ∧ g ≤ g' ∧
    ∃ c, tmps.getD k undef = .pointer (some ⟨c, off, none⟩) ∧ (g = g' → tmps.getD s undef = .pointer (some ⟨c, 0, none⟩))
  out : ∀ k, k ∉ B → (∀ g cs, e k ≠ .lbox g cs) ∧ (∀ g cs, e k ≠ .fbox g cs)

/-- blocks that nobody else knows -/
structure Priv (S : Gh) (H : H) (w : World) (Pv : Nat → Option Nat) (D : List Nat) : Prop where
  lt : ∀ k c, Pv k = some c → c < w.heap.size
  own : ∀ k c, Pv k = some c → ¬ own S H c
  G : ∀ k c o, Pv k = some c → S.G c o = none
  inj : ∀ k k' c, Pv k = some c → Pv k' = some c → k = k'
  M : ∀ k c, Pv k = some c → S.M c = none
  df : ∀ d, d ∈ D → w.heap[d]? = some (.deferred (some [])) ∧ ¬ Av.own S H d
  nd : D.Nodup
  PD : ∀ k c, Pv k = some c → c ∉ D

theorem getD_set {tmps : Array Value} {d k : Nat} {u : Value} (hd : d < tmps.size) : (tmps.setIfInBounds d u).getD k undef = if k = d then u else tmps.getD k undef := by
  by_cases h : k = d
  · subst h; simp [hd]
  · rw [if_neg h]; simp [Array.getElem?_setIfInBounds_ne (Ne.symm h)]

section
variable {N : Nat} {B : List Nat} {S : Gh} {Pv : Nat → Option Nat} {e : Env} {tmps : Array Value} {w : World}

theorem FR.set (h : FR N B S Pv e tmps w) {d : Nat} (hd : d < N) (hB : d ∉ B) {v : AV} {u : Value} (hv : v.okv = true) (hr : VR S v u) :
    FR N B S Pv (e.set d v) (tmps.setIfInBounds d u) w := by
  have hs : d < tmps.size := by rw [h.size]; exact hd
  have hne : ∀ k g cs, (e k = .lbox g cs ∨ e k = .fbox g cs) → k ≠ d := by
    rintro k g cs hk rfl
    rcases hk with hk | hk
    · exact (h.out k hB).1 _ _ hk
    · exact (h.out k hB).2 _ _ hk
  refine ⟨by simp [h.size], ?_, ?_, ?_, ?_, ?_⟩
  · intro k hk hok
    rw [getD_set hs]
    by_cases hkd : k = d
    · subst hkd; simp only [Env.set, if_true]; exact hr
    · simp only [Env.set, if_neg hkd] at hok ⊢; exact h.val k hk hok
  · intro k g cs hk he
    have hkd : k ≠ d := by rintro rfl; simp only [Env.set, if_true] at he; rw [he] at hv; cases hv
    rw [getD_set hs, if_neg hkd]
    simp only [Env.set, if_neg hkd] at he
    exact h.lb k g cs hk he
  · intro k g cs hk he
    have hkd : k ≠ d := by rintro rfl; simp only [Env.set, if_true] at he; rw [he] at hv; cases hv
    rw [getD_set hs, if_neg hkd]
    simp only [Env.set, if_neg hkd] at he
    exact h.fb k g cs hk he
  · intro k s g off hk he
    have hkd : k ≠ d := by rintro rfl; simp only [Env.set, if_true] at he; rw [he] at hv; cases hv
    simp only [Env.set, if_neg hkd] at he
    obtain ⟨h1, g', cs, h2, h3, h4⟩ := h.lp k s g off hk he
    have hsd := hne s g' cs h2
    refine ⟨h1, g', cs, by simp only [Env.set, if_neg hsd]; exact h2, h3, ?_⟩
    rw [getD_set hs, getD_set hs, if_neg hkd, if_neg hsd]
    exact h4
  · intro k hk
    by_cases hkd : k = d
    · subst hkd
      simp only [Env.set, if_true]
      exact ⟨fun g cs hh => (by rw [hh] at hv; cases hv), fun g cs hh => (by rw [hh] at hv; cases hv)⟩
    · simp only [Env.set, if_neg hkd]; exact h.out k hk

theorem FR.setPtr (h : FR N B S Pv e tmps w) {d : Nat} (hd : d < N) (hB : d ∉ B) {s g off : Nat} {u : Value} (hs : s < N)
    (hr : ∃ g' cs, (e s = .lbox g' cs ∨ e s = .fbox g' cs) ∧ g ≤ g' ∧ ∃ c, u = .pointer (some ⟨c, off, none⟩) ∧ (g = g' → tmps.getD s undef = .pointer (some ⟨c, 0, none⟩))) :
    FR N B S Pv (e.set d (.lptr s g off)) (tmps.setIfInBounds d u) w := by
  have hz : d < tmps.size := by rw [h.size]; exact hd
  have hne : ∀ k g cs, (e k = .lbox g cs ∨ e k = .fbox g cs) → k ≠ d := by
    rintro k g cs hk rfl
    rcases hk with hk | hk
    · exact (h.out k hB).1 _ _ hk
    · exact (h.out k hB).2 _ _ hk
  refine ⟨by simp [h.size], ?_, ?_, ?_, ?_, ?_⟩
  · intro k hk hok
    rw [getD_set hz]
    by_cases hkd : k = d
    · subst hkd; simp only [Env.set, if_true] at hok; cases hok
    · simp only [Env.set, if_neg hkd] at hok ⊢; exact h.val k hk hok
  · intro k g cs hk he
    have hkd : k ≠ d := by rintro rfl; simp only [Env.set, if_true] at he; cases he
    rw [getD_set hz, if_neg hkd]
    simp only [Env.set, if_neg hkd] at he
    exact h.lb k g cs hk he
  · intro k g cs hk he
    have hkd : k ≠ d := by rintro rfl; simp only [Env.set, if_true] at he; cases he
    rw [getD_set hz, if_neg hkd]
    simp only [Env.set, if_neg hkd] at he
    exact h.fb k g cs hk he
  · intro k s' g1 off' hk he
    by_cases hkd : k = d
    · subst hkd
      simp only [Env.set, if_true] at he
      cases he
      obtain ⟨g', cs, h2, h3, h4⟩ := hr
      have hsd := hne s g' cs h2
      refine ⟨hs, g', cs, by simp only [Env.set, if_neg hsd]; exact h2, h3, ?_⟩
      rw [getD_set hz, getD_set hz, if_neg hsd, if_pos rfl]
      exact h4
    · simp only [Env.set, if_neg hkd] at he
      obtain ⟨h1, g', cs, h2, h3, h4⟩ := h.lp k s' g1 off' hk he
      have hsd := hne s' g' cs h2
      refine ⟨h1, g', cs, by simp only [Env.set, if_neg hsd]; exact h2, h3, ?_⟩
      rw [getD_set hz, getD_set hz, if_neg hkd, if_neg hsd]
      exact h4
  · intro k hk
    by_cases hkd : k = d
    · subst hkd
      simp only [Env.set, if_true]
      exact ⟨fun g cs hh => (by cases hh), fun g cs hh => (by cases hh)⟩
    · simp only [Env.set, if_neg hkd]; exact h.out k hk

/-- a box of the frame's own is laid (or laid anew) in the block c -/
theorem FR.setBox (h : FR N B S Pv e tmps w) {d : Nat} (hd : d < N) (hB : d ∈ B) {cs : List AV} {c : Nat} {arr : Array Value} {t : Nat}
    (hw : w.heap[c]? = some (.cells arr t (0, 0))) (hv : VRs S cs arr.toList) :
    FR N B S (fun k => if k = d then some c else Pv k) (e.set d (.lbox (gen e d) cs)) (tmps.setIfInBounds d (.pointer (some ⟨c, 0, none⟩))) w := by
  have hz : d < tmps.size := by rw [h.size]; exact hd
  refine ⟨by simp [h.size], ?_, ?_, ?_, ?_, ?_⟩
  · intro k hk hok
    rw [getD_set hz]
    by_cases hkd : k = d
    · subst hkd; simp only [Env.set, if_true] at hok; cases hok
    · simp only [Env.set, if_neg hkd] at hok ⊢; exact h.val k hk hok
  · intro k g cs' hk he
    rw [getD_set hz]
    by_cases hkd : k = d
    · subst hkd
      simp only [Env.set, if_true] at he ⊢
      cases he
      exact ⟨c, arr, t, rfl, rfl, hw, hv⟩
    · simp only [Env.set, if_neg hkd] at he ⊢; exact h.lb k g cs' hk he
  · intro k g cs' hk he
    rw [getD_set hz]
    by_cases hkd : k = d
    · subst hkd; simp only [Env.set, if_true] at he; cases he
    · simp only [Env.set, if_neg hkd] at he ⊢; exact h.fb k g cs' hk he
  · intro k s g1 off hk he
    have hkd : k ≠ d := by rintro rfl; simp only [Env.set, if_true] at he; cases he
    simp only [Env.set, if_neg hkd] at he
    obtain ⟨h1, g', cs', h2, h3, h4⟩ := h.lp k s g1 off hk he
    by_cases hsd : s = d
    · subst hsd
      have hg : gen e s = g' + 1 := by
        unfold gen; rcases h2 with h2 | h2 <;> rw [h2]
      refine ⟨h1, gen e s, cs, by simp [Env.set], by omega, ?_⟩
      obtain ⟨c', h5, _⟩ := h4
      exact ⟨c', by rw [getD_set hz, if_neg hkd]; exact h5, fun hg' => by omega⟩
    · refine ⟨h1, g', cs', by simp only [Env.set, if_neg hsd]; exact h2, h3, ?_⟩
      rw [getD_set hz, getD_set hz, if_neg hkd, if_neg hsd]
      exact h4
  · intro k hk
    have hkd : k ≠ d := by rintro rfl; exact hk hB
    simp only [Env.set, if_neg hkd]; exact h.out k hk

theorem FR.mono {S' : Gh} {w' : World} (h : FR N B S Pv e tmps w) (hS : S.le S') (hw : ∀ k c, Pv k = some c → w'.heap[c]? = w.heap[c]?) : FR N B S' Pv e tmps w' := by
  refine ⟨h.size, fun k hk ho => (h.val k hk ho).mono hS, ?_, fun k g cs hk he => ?_, h.lp, h.out⟩
  · intro k g cs hk he
    obtain ⟨c, arr, t, h1, h2, h3, h4⟩ := h.lb k g cs hk he
    exact ⟨c, arr, t, h1, h2, (hw k c h1).trans h3, h4.mono hS⟩
  · exact ⟨(h.fb k g cs hk he).1.mono hS, (h.fb k g cs hk he).2⟩

/-- a box of the frame's own is written -/
theorem FR.stBox (h : FR N B S Pv e tmps w) {s g : Nat} {cs cs' : List AV} {c : Nat} {arr' : Array Value} {w' : World} {t : Nat} (he : e s = .lbox g cs) (hc : Pv s = some c)
    (hinj : ∀ k k' c, Pv k = some c → Pv k' = some c → k = k')
    (hw : w'.heap[c]? = some (.cells arr' t (0, 0))) (hv : VRs S cs' arr'.toList) (hoth : ∀ b, b ≠ c → w'.heap[b]? = w.heap[b]?) :
    FR N B S Pv (e.set s (.lbox g cs')) tmps w' := by
  refine ⟨h.size, ?_, ?_, ?_, ?_, ?_⟩
  · intro k hk hok
    by_cases hkd : k = s
    · subst hkd; simp only [Env.set, if_true] at hok; cases hok
    · simp only [Env.set, if_neg hkd] at hok ⊢; exact h.val k hk hok
  · intro k g1 cs1 hk he1
    by_cases hkd : k = s
    · subst hkd
      simp only [Env.set, if_true] at he1
      cases he1
      obtain ⟨c1, arr, t1, h1, h2, h3, h4⟩ := h.lb k g cs hk he
      rw [hc] at h1; cases h1
      exact ⟨c, arr', t, hc, h2, hw, hv⟩
    · simp only [Env.set, if_neg hkd] at he1
      obtain ⟨c1, arr, t1, h1, h2, h3, h4⟩ := h.lb k g1 cs1 hk he1
      refine ⟨c1, arr, t1, h1, h2, ?_, h4⟩
      rw [hoth c1 (fun e => hkd (hinj k s c1 h1 (e ▸ hc)))]
      exact h3
  · intro k g1 cs1 hk he1
    by_cases hkd : k = s
    · subst hkd; simp only [Env.set, if_true] at he1; cases he1
    · simp only [Env.set, if_neg hkd] at he1; exact h.fb k g1 cs1 hk he1
  · intro k s' g1 off hk he1
    have hkd : k ≠ s := by rintro rfl; simp only [Env.set, if_true] at he1; cases he1
    simp only [Env.set, if_neg hkd] at he1
    obtain ⟨h1, g', cs1, h2, h3, h4⟩ := h.lp k s' g1 off hk he1
    by_cases hsd : s' = s
    · subst hsd
      rw [he] at h2
      rcases h2 with h2 | h2
      · cases h2
        exact ⟨h1, g, cs', by simp [Env.set], h3, h4⟩
      · cases h2
    · exact ⟨h1, g', cs1, by simp only [Env.set, if_neg hsd]; exact h2, h3, h4⟩
  · intro k hk
    by_cases hkd : k = s
    · subst hkd; exact absurd he ((h.out k hk).1 _ _)
    · simp only [Env.set, if_neg hkd]; exact h.out k hk

/-- a box of the frame's own is never written again -/
theorem FR.freeze (h : FR N B S Pv e tmps w) {S' : Gh} (hS : S.le S') {s g : Nat} {cs : List AV} (hsN : s < N) (he : e s = .lbox g cs)
    (hf : VR S' (.cptr cs) (tmps.getD s undef)) (hp : ∃ c, tmps.getD s undef = .pointer (some ⟨c, 0, none⟩)) :
    FR N B S' (fun k => if k = s then none else Pv k) (e.set s (.fbox g cs)) tmps w := by
  refine ⟨h.size, ?_, ?_, ?_, ?_, ?_⟩
  · intro k hk hok
    by_cases hkd : k = s
    · subst hkd; simp only [Env.set, if_true] at hok; cases hok
    · simp only [Env.set, if_neg hkd] at hok ⊢; exact (h.val k hk hok).mono hS
  · intro k g1 cs1 hk he1
    by_cases hkd : k = s
    · subst hkd; simp only [Env.set, if_true] at he1; cases he1
    · simp only [Env.set, if_neg hkd] at he1 ⊢
      obtain ⟨c1, arr, t1, h1, h2, h3, h4⟩ := h.lb k g1 cs1 hk he1
      exact ⟨c1, arr, t1, h1, h2, h3, h4.mono hS⟩
  · intro k g1 cs1 hk he1
    by_cases hkd : k = s
    · subst hkd
      simp only [Env.set, if_true] at he1
      cases he1
      exact ⟨hf, hp⟩
    · simp only [Env.set, if_neg hkd] at he1
      exact ⟨(h.fb k g1 cs1 hk he1).1.mono hS, (h.fb k g1 cs1 hk he1).2⟩
  · intro k s' g1 off hk he1
    have hkd : k ≠ s := by rintro rfl; simp only [Env.set, if_true] at he1; cases he1
    simp only [Env.set, if_neg hkd] at he1
    obtain ⟨h1, g', cs1, h2, h3, h4⟩ := h.lp k s' g1 off hk he1
    by_cases hsd : s' = s
    · subst hsd
      rw [he] at h2
      rcases h2 with h2 | h2
      · cases h2
        exact ⟨h1, g, cs, by simp [Env.set], h3, h4⟩
      · cases h2
    · exact ⟨h1, g', cs1, by simp only [Env.set, if_neg hsd]; exact h2, h3, h4⟩
  · intro k hk
    by_cases hkd : k = s
    · subst hkd; exact absurd he ((h.out k hk).1 _ _)
    · simp only [Env.set, if_neg hkd]; exact h.out k hk
end

section
variable {chk : Nat → List Nat → Code → ACode → Bool} {gl : Nat → List AV} {S : Gh} {H : H} {w : World}

theorem OR.mono {S' : Gh} {w' : World} {b c : Nat} {o : AObj} (h : OR chk S w b c o) (hS : S.le S') (hA : S'.A b = S.A b) (hw : o.own = true → w'.heap[c]? = w.heap[c]?) : OR chk S' w' b c o := by
  cases o with
  | cells cs =>
    obtain ⟨arr, e, h1, h2, h3, h4⟩ := h
    exact ⟨arr, e, (hw rfl).trans h1, h2, fun a ha => h3 a (hA ▸ ha), fun i hi => (h4 i hi).mono hS⟩
  | frz cs => exact fun i hi => let ⟨v, h1, h2⟩ := h i hi; ⟨v, hS.G _ _ _ h1, h2.mono hS⟩
  | mp es =>
    obtain ⟨ents, clock, h1, ⟨h2, h3⟩, h4⟩ := h
    exact ⟨ents, clock, (hw rfl).trans h1, ⟨h2, fun i hi => ⟨(h3 i hi).1.mono hS, (h3 i hi).2.mono hS⟩⟩, h4⟩
  | fmp es =>
    obtain ⟨ents, h1, h2, h3⟩ := h
    exact ⟨ents, hS.M _ _ h1, h2, fun i hi => ⟨(h3 i hi).1.mono hS, (h3 i hi).2.mono hS⟩⟩
  | loop r =>
    obtain ⟨L, h1, h2⟩ := h
    exact ⟨L, (hw rfl).trans h1, ⟨h2.state, h2.le, h2.params, h2.chk, h2.ps, fun k v hv => (h2.env k v hv).mono hS, h2.okv, h2.pend⟩⟩
  | tok => trivial
  | dead => trivial

/-- memory that has turned at blocks alone that are nobody's (or is larger) -/
theorem WR.frame (h : WR chk gl S H w) {w' : World} (hsz : w.heap.size ≤ w'.heap.size)
    (hw : ∀ c, c < w.heap.size → (own S H c ∨ (∃ o, S.G c o ≠ none) ∨ S.M c ≠ none) → w'.heap[c]? = w.heap[c]?) : WR chk gl S H w' := by
  refine ⟨?_, h.inj, ?_, h.Gown, ?_, h.Mown, ?_, h.tokinj, h.fresh, h.glob⟩
  · intro b c hb
    obtain ⟨h1, o, h2, h3⟩ := h.dom b c hb
    exact ⟨Nat.lt_of_lt_of_le h1 hsz, o, h2, h3.mono (.refl _) rfl fun ho => hw c h1 (.inl (.inl ⟨b, o, hb, h2, ho⟩))⟩
  · intro c o v hv
    have h1 := h.G c o v hv
    have hlt : c < w.heap.size := block_lt_of_cell h1
    rw [← h1]
    simp only [World.cell?, hw c hlt (.inr (.inl ⟨o, by rw [hv]; simp⟩))]
  · intro c ents hc
    obtain ⟨clock, h1⟩ := h.M c ents hc
    have hlt : c < w.heap.size := (Array.getElem?_eq_some_iff.1 h1).1
    exact ⟨clock, (hw c hlt (.inr (.inr (by rw [hc]; simp)))).trans h1⟩
  · intro t ht
    obtain ⟨i, arr, e, h1, h2, h3, h4, h5⟩ := h.tok t ht
    have hlt : i.c < w.heap.size := (Array.getElem?_eq_some_iff.1 h2).1
    exact ⟨i, arr, e, h1, (hw i.c hlt (.inl (.inr ⟨t, i, ht, h1, rfl⟩))).trans h2, h3, h4, h5⟩

theorem heap_alloc_any (w : World) (o : Obj) (c : Nat) (h : c < w.heap.size) : (w.alloc o).heap[c]? = w.heap[c]? := heap_alloc_old w o c h

theorem WR.alloc (h : WR chk gl S H w) (o : Obj) : WR chk gl S H (w.alloc o) :=
  h.frame (by simp) fun c hc _ => heap_alloc_any w o c hc
theorem WR.drew (h : WR chk gl S H w) : WR chk gl S H w.drew := h.frame (Nat.le_refl _) fun _ _ _ => rfl

/-- what lies outside the heap's cells is as it was -/
def isLp : Option Obj → Bool
  | some (.loop _) => true
  | _ => false
def Sm (w w' : World) : Prop := w'.os = w.os ∧ w'.output = w.output ∧ (∀ a, w'.frozen? a = w.frozen? a) ∧ ∀ c : Nat, isLp w.heap[c]? = true → isLp w'.heap[c]? = true
def unfz : Obj → Prop
  | .cells _ _ fr => fr = (0, 0)
  | _ => True
theorem Sm.refl (w : World) : Sm w w := ⟨rfl, rfl, fun _ => rfl, fun _ h => h⟩
theorem Sm.trans {w w1 w2 : World} (h : Sm w w1) (h' : Sm w1 w2) : Sm w w2 := ⟨h'.1.trans h.1, h'.2.1.trans h.2.1, fun a => (h'.2.2.1 a).trans (h.2.2.1 a), fun c hc => h'.2.2.2 c (h.2.2.2 c hc)⟩
theorem isLp_lt {w : World} {c : Nat} (h : isLp w.heap[c]? = true) : c < w.heap.size := by
  by_cases hc : c < w.heap.size
  · exact hc
  · rw [Array.getElem?_eq_none (by omega)] at h; cases h
theorem Sm.alloc (w : World) {o : Obj} (ho : unfz o) : Sm w (w.alloc o) := by
  refine ⟨rfl, rfl, fun a => ?_, fun c hc => by rw [heap_alloc_any w o c (isLp_lt hc)]; exact hc⟩
  by_cases hb : a.block < w.heap.size
  · simp only [World.frozen?, heap_alloc_any w o _ hb]
  · have h1 : w.heap[a.block]? = none := by simp; omega
    have h2 : w.frozen? a = false := by simp only [World.frozen?, h1]
    rw [h2]
    by_cases he : a.block = w.heap.size
    · have h3 : (w.alloc o).heap[a.block]? = some o := by
        rw [he]; show (w.heap.push o)[w.heap.size]? = some o; simp
      simp only [World.frozen?, h3]
      cases o <;> first | rfl | (rename_i fr; simp only [unfz] at ho; subst ho; simp)
    · have h3 : (w.alloc o).heap[a.block]? = none := by
        show (w.heap.push o)[a.block]? = none; simp; omega
      simp only [World.frozen?, h3]
theorem Sm.drew (w : World) : Sm w w.drew := ⟨rfl, rfl, fun _ => rfl, fun _ h => h⟩
theorem Sm.row (w : World) (c : Nat) (arr : Array Value) : Sm w (w.setRow c arr) := by
  refine ⟨rfl, rfl, fun a => ?_, fun c' hc => ?_⟩
  rotate_left
  · unfold World.setRow
    by_cases h : c' = c
    · subst h
      simp only [Array.getElem?_modify, if_true]
      cases hq : w.heap[c']? with
      | none => rw [hq] at hc; cases hc
      | some o => rw [hq] at hc; cases o <;> first | (cases hc; done) | rfl
    · simp only [Array.getElem?_modify, if_neg (Ne.symm h)]; exact hc
  by_cases h : a.block = c
  · subst h
    have h1 : (w.setRow a.block arr).heap[a.block]? = (w.heap[a.block]?).map fun
        | .cells _ elem frozen => .cells arr elem frozen
        | o => o := by
      unfold World.setRow; simp only [Array.getElem?_modify, if_true]; rfl
    unfold World.frozen?
    rw [h1]
    cases hq : w.heap[a.block]? with
    | none => rfl
    | some o => cases o <;> rfl
  · have h1 : (w.setRow c arr).heap[a.block]? = w.heap[a.block]? := by
      unfold World.setRow; simp only [Array.getElem?_modify, if_neg (Ne.symm h)]
    unfold World.frozen?
    rw [h1]
def noCells : Obj → Prop
  | .cells .. => False
  | _ => True
theorem Sm.obj (w : World) {c : Nat} {o o' : Obj} (h : w.heap[c]? = some o) (ho : noCells o) (ho' : noCells o') (hl : isLp (some o) = true → isLp (some o') = true := by simp [isLp]) : Sm w { w with heap := w.heap.setIfInBounds c o' } := by
  refine ⟨rfl, rfl, fun a => ?_, fun c' hc' => ?_⟩
  rotate_left
  · by_cases hc : c' = c
    · subst hc
      rw [h] at hc'
      have hlt : c' < w.heap.size := (Array.getElem?_eq_some_iff.1 h).1
      simp only [Array.getElem?_setIfInBounds_self_of_lt hlt]; exact hl hc'
    · simp only [Array.getElem?_setIfInBounds_ne (Ne.symm hc)]; exact hc'
  have hlt : c < w.heap.size := (Array.getElem?_eq_some_iff.1 h).1
  unfold World.frozen?
  by_cases hc : a.block = c
  · rw [hc, h]
    have h1 : (w.heap.setIfInBounds c o')[c]? = some o' := by simp [hlt]
    simp only [h1]
    cases o <;> cases o' <;> first | exact False.elim ho | exact False.elim ho' | rfl
  · simp only [Array.getElem?_setIfInBounds_ne (Ne.symm hc)]

/-- what a run may turn: what is the interpreter's own, and new memory -/
structure Keep (S : Gh) (H : Av.H) (w : World) (S' : Gh) (H' : Av.H) (w' : World) : Prop where
  le : S.le S'
  sz : w.heap.size ≤ w'.heap.size
  old : ∀ c, c < w.heap.size → ¬ own S H c → w'.heap[c]? = w.heap[c]?
  own : ∀ c, c < w.heap.size → Av.own S' H' c → Av.own S H c
  G : ∀ c o, c < w.heap.size → ¬ Av.own S H c → S'.G c o = S.G c o
  M : ∀ c, c < w.heap.size → ¬ Av.own S H c → S'.M c = S.M c
  sm : Sm w w'

theorem Keep.refl : Keep S H w S H w := ⟨.refl _, Nat.le_refl _, fun _ _ _ => rfl, fun _ _ h => h, fun _ _ _ _ => rfl, fun _ _ _ => rfl, .refl _⟩
theorem Keep.trans {S1 S2 : Gh} {H1 H2 : Av.H} {w1 w2 : World} (h : Keep S H w S1 H1 w1) (h' : Keep S1 H1 w1 S2 H2 w2) : Keep S H w S2 H2 w2 := by
  have hl : ∀ {c}, c < w.heap.size → c < w1.heap.size := fun hc => Nat.lt_of_lt_of_le hc h.sz
  refine ⟨h.le.trans h'.le, Nat.le_trans h.sz h'.sz, fun c hc ho => ?_, fun c hc ho => h.own c hc (h'.own c (hl hc) ho), fun c o hc ho => ?_, fun c hc ho => ?_, h.sm.trans h'.sm⟩
  · exact (h'.old c (hl hc) fun hh => ho (h.own c hc hh)).trans (h.old c hc ho)
  · exact (h'.G c o (hl hc) fun hh => ho (h.own c hc hh)).trans (h.G c o hc ho)
  · exact (h'.M c (hl hc) fun hh => ho (h.own c hc hh)).trans (h.M c hc ho)
theorem Keep.alloc (o : Obj) (ho : unfz o) : Keep S H w S H (w.alloc o) :=
  ⟨.refl _, by simp, fun c hc _ => heap_alloc_any w o c hc, fun _ _ h => h, fun _ _ _ _ => rfl, fun _ _ _ => rfl, .alloc w ho⟩
theorem Keep.drew : Keep S H w S H w.drew := ⟨.refl _, Nat.le_refl _, fun _ _ _ => rfl, fun _ _ h => h, fun _ _ _ _ => rfl, fun _ _ _ => rfl, .drew _⟩

/-- a frame's own blocks lie as they lay -/
theorem Priv.keep {Pv : Nat → Option Nat} {D : List Nat} {S' : Gh} {H' : Av.H} {w' : World} (h : Priv S H w Pv D) (k : Keep S H w S' H' w') : Priv S' H' w' Pv D := by
  refine ⟨fun i c hc => Nat.lt_of_lt_of_le (h.lt i c hc) k.sz, fun i c hc ho => h.own i c hc (k.own c (h.lt i c hc) ho), fun i c o hc => ?_, h.inj, fun i c hc => ?_, fun d hd => ?_, h.nd, h.PD⟩
  · exact (k.G c o (h.lt i c hc) (h.own i c hc)).trans (h.G i c o hc)
  · exact (k.M c (h.lt i c hc) (h.own i c hc)).trans (h.M i c hc)
  · obtain ⟨h1, h2⟩ := h.df d hd
    have hlt : d < w.heap.size := (Array.getElem?_eq_some_iff.1 h1).1
    exact ⟨(k.old d hlt h2).trans h1, fun ho => h2 (k.own d hlt ho)⟩
theorem FR.keep {N : Nat} {B : List Nat} {Pv : Nat → Option Nat} {D : List Nat} {e : Env} {tmps : Array Value} {S' : Gh} {H' : Av.H} {w' : World}
    (h : FR N B S Pv e tmps w) (hp : Priv S H w Pv D) (k : Keep S H w S' H' w') : FR N B S' Pv e tmps w' :=
  h.mono k.le fun i c hc => k.old c (hp.lt i c hc) (hp.own i c hc)
end
end Av
end
