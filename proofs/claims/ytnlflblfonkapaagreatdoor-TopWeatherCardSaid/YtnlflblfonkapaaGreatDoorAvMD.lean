/- The interpreter is sound: no condition beyond those named in each statement. -/
import Derived.Orders
import Derived.RangeFuncLeaves
import Derived.RangeFuncRecord
import Derived.Deep.Slices
import Derived.Deep.Fields
import Derived.ChangeSame
import Derived.ChangeArms
import Derived.OpenShut
import Derived.Test.YtnlflblfonkapaaGreatDoorAvMC
set_option linter.all false
set_option linter.unusedSectionVars false
set_option linter.unusedVariables false
set_option linter.unusedSimpArgs false
set_option linter.unnecessarySimpa false
section
/- Operations that mind each other not may run in either order. -/
namespace Av
open Go

def agree (e1 e2 : Env) (xs : List Nat) : Prop := ∀ k ∈ xs, e1 k = e2 k
theorem agree.left {e1 e2 : Env} {xs ys : List Nat} (h : agree e1 e2 (xs ++ ys)) : agree e1 e2 xs := fun k hk => h k (List.mem_append_left _ hk)
theorem agree.right {e1 e2 : Env} {xs ys : List Nat} (h : agree e1 e2 (xs ++ ys)) : agree e1 e2 ys := fun k hk => h k (List.mem_append_right _ hk)
theorem agree.head {e1 e2 : Env} {x : Nat} {ys : List Nat} (h : agree e1 e2 (x :: ys)) : e1 x = e2 x := h x (by simp)
theorem agree.tail {e1 e2 : Env} {x : Nat} {ys : List Nat} (h : agree e1 e2 (x :: ys)) : agree e1 e2 ys := fun k hk => h k (by simp [hk])

section
variable (p : AProg) {e1 e2 : Env}

theorem evr_congr {x : Opd} (h : agree e1 e2 x.sl) : evr p e1 x = evr p e2 x := by
  cases x with
  | t n => simp only [evr]; rw [h n (by simp [Opd.sl])]
  | _ => rfl
theorem ev_congr {x : Opd} (h : agree e1 e2 x.sl) : ev p e1 x = ev p e2 x := by unfold ev; rw [evr_congr p h]
theorem evs_congr : ∀ {xs : List Opd}, agree e1 e2 (opsl xs) → evs p e1 xs = evs p e2 xs
  | [], _ => rfl
  | x :: xs, h => by
    have h' : agree e1 e2 (x.sl ++ opsl xs) := by simpa [opsl] using h
    unfold evs; rw [ev_congr p h'.left, evs_congr h'.right]
theorem fill_congr : ∀ {ps : List (Nat × Nat × Opd)} {cs}, agree e1 e2 (opsl (ps.map (·.2.2))) → fill p e1 cs ps = fill p e2 cs ps
  | [], _, _ => rfl
  | (off, n, x) :: ps, cs, h => by
    have h' : agree e1 e2 (x.sl ++ opsl (ps.map (·.2.2))) := by simpa [opsl] using h
    unfold fill; rw [ev_congr p h'.left]
    split
    · split
      · exact fill_congr h'.right
      · rfl
    · rfl
theorem elems_congr {sz : Nat} : ∀ {ps : List (Nat × Opd)} {es}, agree e1 e2 (opsl (ps.map (·.2))) → elems p e1 sz es ps = elems p e2 sz es ps
  | [], _, _ => rfl
  | (i, x) :: ps, es, h => by
    have h' : agree e1 e2 (x.sl ++ opsl (ps.map (·.2))) := by simpa [opsl] using h
    unfold elems; rw [ev_congr p h'.left]
    split
    · split
      · exact elems_congr h'.right
      · rfl
    · rfl
theorem onat_congr {d : Nat} {x : Option Opd} (h : agree e1 e2 (osl x)) : onat p e1 d x = onat p e2 d x := by
  cases x with
  | none => rfl
  | some x => simp only [onat]; rw [ev_congr p h]
theorem omx_congr {x : Option Opd} (h : agree e1 e2 (osl x)) : omx p e1 x = omx p e2 x := by
  cases x with
  | none => rfl
  | some x => simp only [omx]; rw [onat_congr p (x := some x) h]
theorem lofs_congr {s g : Nat} {x : Option Opd} (h : agree e1 e2 (osl x)) : lofs e1 s g x = lofs e2 s g x := by
  cases x with
  | none => rfl
  | some x => cases x with
    | t n => simp only [lofs]; rw [h n (by simp [osl, Opd.sl])]
    | _ => rfl

theorem stepP_congr {i : PIns} (h : agree e1 e2 i.rd) : stepP p e1 i = stepP p e2 i := by
  cases i <;> simp only [PIns.rd] at h <;> simp only [stepP]
  case mov x => rw [ev_congr p h]
  case pick c a b => rw [ev_congr p h.left.left, ev_congr p h.left.right, ev_congr p h.right]
  case allocL s zs => simp only [gen]; rw [h.head]
  case boxL s x => simp only [gen]; rw [h.head, ev_congr p h.tail]
  case build zs ps => rw [fill_congr p h]
  case bslice sz zs len ps => rw [elems_congr p h]
  case lad s off => rw [h.head]
  case faddr off a => rw [evr_congr p h]
  case iaddr arr sz x i => rw [evr_congr p h.left, ev_congr p h.right]
  case ladi s len sz i => rw [h.head, ev_congr p h.tail]
  case loadL s n agg a => simp only [lofs_congr h.tail, h.head]
  case storeL s n a x => simp only [lofs_congr h.tail.left, h.head, ev_congr p h.tail.right]
  case loadC n agg a => rw [ev_congr p h]
  case lookupV n z m k => rw [ev_congr p h.left, ev_congr p h.right]
  case bin op x y => rw [ev_congr p h.left, ev_congr p h.right]
  case eqn k neg x y => rw [ev_congr p h.left, ev_congr p h.right]
  case un op x => rw [ev_congr p h]
  case index len sz agg x i => rw [ev_congr p h.left, ev_congr p h.right]
  case field off n agg x => rw [ev_congr p h]
  case slice sz x lo hi mx => simp only [ev_congr p h.left.left.left, onat_congr p h.left.left.right, onat_congr p h.left.right, omx_congr p h.right]
  case slica n sz a => rw [ev_congr p h]
  case slicL s n sz a =>
    have h2 : ∀ g, lofs e1 s g (some a) = lofs e2 s g (some a) := fun g => lofs_congr (x := some a) h.tail
    simp only [h2, h.head]
  case mkfn f a b => rw [evs_congr p h.left, evs_congr p h.right]
  case extract x i => rw [ev_congr p h]
  case len x => rw [ev_congr p h]
  case mn xs => rw [evs_congr p h]
  case mx xs => rw [evs_congr p h]
  case nilchk x => rw [ev_congr p h]

theorem stepH_congr {i : HIns} {H : Av.H} (h : agree e1 e2 i.rd) : stepH p e1 H i = stepH p e2 H i := by
  cases i <;> simp only [HIns.rd] at h <;> simp only [stepH]
  case box x => rw [ev_congr p h]
  case load n agg a => rw [ev_congr p h]
  case store n a x => rw [ev_congr p h.left, ev_congr p h.right]
  case bsliceM sz zs len ps => rw [elems_congr p h]
  case mslice sz zs l c => rw [ev_congr p h.left, ev_congr p h.right]
  case lookup n z m k => rw [ev_congr p h.left, ev_congr p h.right]
  case mapupd n m k v => rw [ev_congr p h.left.left, ev_congr p h.left.right, ev_congr p h.right]
  case append sz bytes s x => rw [ev_congr p h.left, ev_congr p h.right]
  case appendM sz bytes s x => rw [ev_congr p h.left, ev_congr p h.right]
  case appendC sz bytes s x => rw [ev_congr p h.left, ev_congr p h.right]
  case loadz n a => rw [ev_congr p h]
  case appendZ sz bytes zs s n => rw [ev_congr p h]
  case lookup2 n z m k => rw [ev_congr p h.left, ev_congr p h.right]
  case mapent n z m k => rw [ev_congr p h.left, ev_congr p h.right]
  case entst m i v => rw [ev_congr p h.left.left, ev_congr p h.left.right, ev_congr p h.right]

/-- what an operation gives, apart from where it goes -/
def insv (n : Nat) (i : Ins) (e : Env) (h : H) : Option (AV × Option (Nat × AV) × H) := match i with
  | .p i => match stepP p e i with | some (v, w) => some (v, w, h) | none => none
  | .h i => match stepH p e h i with | some (v, h) => some (v, none, h) | none => none
  | .call f args => match ev p e f, evs p e args with
    | some f, some vs => match callx p n f vs h with | some (v, h) => some (v, none, h) | none => none
    | _, _ => none
  | .calli f args => match ev p e f, evs p e args with
    | some f, some vs => if f.clean && cleans (vs.map AV.shutv) then
        match callx p n f (vs.map AV.shutv) H.emp with
        | some (v, h') => if (frz3 h' v).clean then some (frz3 h' v, none, h) else none
        | none => none
      else none
    | _, _ => none
  | .callf _ _ => none
def opv (n : Nat) (o : GIns) (e : Env) (h : H) : Option (AV × Option (Nat × AV) × H) := match wantedA e o.guard with
  | some false => some (.tup [], none, h)
  | some true => insv p n o.ins e h
  | none => none
def app (e : Env) (w : Option (Nat × AV)) (d : Option Nat) (v : AV) : Env := (match w with | some (s, u) => e.set s u | none => e).dst d v

theorem insx_eq {n i d e h} : insx p n i d e h = match insv p n i e h with | some (v, w, h') => some (app e w d v, h') | none => none := by
  cases i with
  | p i =>
    simp only [insx, insv]
    cases stepP p e i with
    | none => rfl
    | some q => obtain ⟨v, w⟩ := q; cases w with
      | none => rfl
      | some w => rfl
  | h i =>
    simp only [insx, insv]
    cases stepH p e h i with
    | none => rfl
    | some q => rfl
  | call f args =>
    simp only [insx, insv]
    cases ev p e f with
    | none => rfl
    | some fv => cases evs p e args with
      | none => rfl
      | some vs =>
        simp only
        cases callx p n fv vs h with
        | none => rfl
        | some q => rfl
  | calli f args =>
    simp only [insx, insv]
    cases ev p e f with
    | none => rfl
    | some fv => cases evs p e args with
      | none => rfl
      | some vs =>
        simp only
        split
        · cases callx p n fv (vs.map AV.shutv) H.emp with
          | none => rfl
          | some q => simp only; split <;> rfl
        · rfl
  | callf f args => rfl
theorem op1_eq {n o e h} : op1 p n o e h = match opv p n o e h with | some (v, w, h') => some (app e w o.dst v, h') | none => none := by
  unfold op1 opv
  cases wantedA e o.guard with
  | none => rfl
  | some b => cases b with
    | false => rfl
    | true => exact insx_eq p

theorem opv_congr {n : Nat} {o : GIns} {h : H} (ha : agree e1 e2 o.rd) : opv p n o e1 h = opv p n o e2 h := by
  unfold GIns.rd at ha
  have hg : wantedA e1 o.guard = wantedA e2 o.guard := by
    cases hq : o.guard with
    | none => rfl
    | some q => obtain ⟨s, w⟩ := q; simp only [wantedA]; rw [hq] at ha; rw [ha.left s (by simp)]
  unfold opv
  rw [hg]
  have hi := ha.right
  cases hins : o.ins with
  | p i => rw [hins] at hi; simp only [insv]; rw [stepP_congr p hi]
  | h i => rw [hins] at hi; simp only [insv]; rw [stepH_congr p hi]
  | call f args => rw [hins] at hi; simp only [insv]; rw [ev_congr p hi.left, evs_congr p hi.right]
  | calli f args => rw [hins] at hi; simp only [insv]; rw [ev_congr p hi.left, evs_congr p hi.right]
  | callf f args => rfl

theorem stepP_wr {i : PIns} {e : Env} {v s u} (h : stepP p e i = some (v, some (s, u))) : ∃ n a x, i = .storeL s n a x := by
  cases i with
  | storeL s' n a x =>
    simp only [stepP] at h
    split at h
    · split at h
      · split at h
        · cases h; exact ⟨n, a, x, rfl⟩
        · cases h
      · cases h
    · cases h
  | _ => exfalso; simp only [stepP] at h; repeat' (first | (cases h; done) | split at h)

theorem opv_wr {n : Nat} {o : GIns} {e : Env} {h h' : H} {v s u} (hh : opv p n o e h = some (v, some (s, u), h')) : s ∈ o.wr := by
  unfold opv at hh
  split at hh
  · cases hh
  · cases hins : o.ins with
    | p i =>
      rw [hins] at hh; simp only [insv] at hh
      split at hh
      · rename_i v' w hs; cases hh
        obtain ⟨n, a, x, rfl⟩ := stepP_wr p hs
        unfold GIns.wr; rw [hins]; simp
      · cases hh
    | h i => rw [hins] at hh; simp only [insv] at hh; split at hh <;> cases hh
    | call f args => rw [hins] at hh; simp only [insv] at hh; split at hh <;> (try split at hh) <;> cases hh
    | calli f args => rw [hins] at hh; simp only [insv] at hh; split at hh <;> (try split at hh) <;> (try split at hh) <;> (try split at hh) <;> cases hh
    | callf f args => rw [hins] at hh; cases hh
  · cases hh

theorem opv_cls0 {n : Nat} {o : GIns} {e : Env} {h h' : H} {v w} (hc : o.ins.cls = 0) (hh : opv p n o e h = some (v, w, h')) : h' = h ∧ ∀ h2, opv p n o e h2 = some (v, w, h2) := by
  unfold opv at hh ⊢
  split at hh
  · cases hh; exact ⟨rfl, fun _ => rfl⟩
  · cases hins : o.ins with
    | p i =>
      rw [hins] at hh; simp only [insv] at hh ⊢
      split at hh
      · rename_i v' w' hs; cases hh; exact ⟨rfl, fun _ => rfl⟩
      · cases hh
    | calli f args =>
      rw [hins] at hh; simp only [insv] at hh ⊢
      split at hh
      · rename_i fv vs h1 h2
        split at hh
        · rename_i hcl
          split at hh
          · rename_i v' h1' hx
            split at hh
            · rename_i hq; cases hh
              refine ⟨rfl, fun h2' => ?_⟩
              first
                | (simp only [h1, h2]; rw [if_pos hcl]; simp only [hx, hq, if_true]; done)
                | (rw [if_pos hcl]; simp only [hx, hq, if_true]; done)
                | (simp only [hx, hq, if_true]; done)
                | (simp only [hq, if_true]; done)
                | rfl
            · cases hh
          · cases hh
        · cases hh
      · cases hh
    | h i => rw [hins] at hc; cases i <;> cases hc
    | call f args => rw [hins] at hc; cases hc
    | callf f args => rw [hins] at hh; cases hh
  · cases hh

theorem opv_cls1 {n : Nat} {o : GIns} {e : Env} {h h' : H} {v w} (hc : o.ins.cls = 1) (hh : opv p n o e h = some (v, w, h')) : h' = h := by
  unfold opv at hh
  split at hh
  · cases hh; rfl
  · cases hins : o.ins with
    | p i => rw [hins] at hc; cases hc
    | calli f args => rw [hins] at hc; cases hc
    | call f args => rw [hins] at hc; cases hc
    | callf f args => rw [hins] at hh; cases hh
    | h i =>
      rw [hins] at hh hc; simp only [insv] at hh
      split at hh
      · rename_i v' h1 hs
        cases hh
        cases i with
        | load n agg a => simp only [stepH] at hs; repeat' (first | (cases hs; done) | (cases hs; rfl) | split at hs)
        | _ => cases hc
      · cases hh
  · cases hh

/-- memory that an append leaves -/
def AppTo (h h2 : H) : Prop := h.n ≤ h2.n ∧ ∀ b, b < h2.n → (∀ cs, h2.get b = some (.cells cs) ↔ (b < h.n ∧ h.get b = some (.cells cs))) ∧ (∀ cs, h2.get b = some (.frz cs) ↔ (b < h.n ∧ h.get b = some (.frz cs)))

theorem appTo_refl (h : H) : AppTo h h := ⟨Nat.le_refl _, fun b hb => ⟨fun cs => ⟨fun q => ⟨hb, q⟩, fun q => q.2⟩, fun cs => ⟨fun q => ⟨hb, q⟩, fun q => q.2⟩⟩⟩
theorem appTo_new (h : H) : AppTo h (h.new .tok) := by
  refine ⟨Nat.le_succ _, fun b hb => ?_⟩
  have hb' : b < h.n + 1 := hb
  by_cases hn : b = h.n
  · subst hn; simp [H.new]
  · have : b < h.n := by omega
    simp [H.new, hn, this]
theorem appTo_next (h : H) {t : Nat} (ht : h.get t = some .tok) : AppTo h ((h.put t .dead).new .tok) := by
  refine ⟨Nat.le_succ _, fun b hb => ?_⟩
  have hb' : b < h.n + 1 := hb
  by_cases hn : b = h.n
  · subst hn; simp [H.new, H.put]
  · have : b < h.n := by omega
    by_cases hbt : b = t
    · subst hbt; simp [H.new, H.put, hn, ht]
    · simp [H.new, H.put, hn, this, hbt]

theorem append_to {e : Env} {h h2 : H} {sz by' s x v} (hs : stepH p e h (.append sz by' s x) = some (v, h2)) : AppTo h h2 := by
  simp only [stepH] at hs
  split at hs
  · rename_i es k xv h1 h3
    split at hs
    · rename_i nw hnw
      by_cases h0 : nw.length = 0
      · rw [if_pos h0] at hs; cases hs; exact appTo_refl h
      · rw [if_neg h0] at hs
        split at hs
        · split at hs
          · cases hs; exact appTo_new h
          · rename_i t
            split at hs
            · rename_i ht; cases hs; exact appTo_next h ht
            · cases hs
          · cases hs
        · cases hs
    · cases hs
  · cases hs

theorem load_to {e : Env} {h h2 : H} {n agg a v h'} (hto : AppTo h h2) : stepH p e h (.load n agg a) = some (v, h') → h' = h ∧ stepH p e h2 (.load n agg a) = some (v, h2) := by
  intro hs
  simp only [stepH] at hs ⊢
  split at hs
  · rename_i b o he
    split at hs
    · rename_i hb
      have hb2 : b < h2.n := Nat.lt_of_lt_of_le hb hto.1
      rw [if_pos hb2]
      split at hs
      · rename_i cs hg
        have := ((hto.2 b hb2).1 cs).2 ⟨hb, hg⟩
        rw [this]
        split at hs
        · rename_i v' hv; cases hs; exact ⟨rfl, by simp [hv]⟩
        · cases hs
      · rename_i cs hg
        have := ((hto.2 b hb2).2 cs).2 ⟨hb, hg⟩
        rw [this]
        split at hs
        · rename_i v' hv; cases hs; exact ⟨rfl, by simp [hv]⟩
        · cases hs
      · cases hs
    · cases hs
  · rename_i cs he
    split at hs
    · rename_i v' hv; cases hs; exact ⟨rfl, by simp [hv]⟩
    · cases hs
  · cases hs
theorem load_back {e : Env} {h h2 : H} {n agg a v h'} (hto : AppTo h h2) : stepH p e h2 (.load n agg a) = some (v, h') → h' = h2 ∧ stepH p e h (.load n agg a) = some (v, h) := by
  intro hs
  simp only [stepH] at hs ⊢
  split at hs
  · rename_i b o he
    split at hs
    · rename_i hb2
      split at hs
      · rename_i cs hg
        obtain ⟨hb, hg'⟩ := ((hto.2 b hb2).1 cs).1 hg
        rw [if_pos hb, hg']
        split at hs
        · rename_i v' hv; cases hs; exact ⟨rfl, by simp [hv]⟩
        · cases hs
      · rename_i cs hg
        obtain ⟨hb, hg'⟩ := ((hto.2 b hb2).2 cs).1 hg
        rw [if_pos hb, hg']
        split at hs
        · rename_i v' hv; cases hs; exact ⟨rfl, by simp [hv]⟩
        · cases hs
      · cases hs
    · cases hs
  · rename_i cs he
    split at hs
    · rename_i v' hv; cases hs; exact ⟨rfl, by simp [hv]⟩
    · cases hs
  · cases hs

theorem cls1_load {i : Ins} (h : i.cls = 1) : ∃ n agg a, i = .h (.load n agg a) := by
  cases i with
  | h i => cases i <;> first | exact ⟨_, _, _, rfl⟩ | cases h
  | _ => cases h
theorem cls2_app {i : Ins} (h : i.cls = 2) : ∃ sz by' s x, i = .h (.append sz by' s x) := by
  cases i with
  | h i => cases i <;> first | exact ⟨_, _, _, _, rfl⟩ | cases h
  | _ => cases h

theorem opv_app {n : Nat} {o : GIns} {e : Env} {h h' : H} {v w} (hc : o.ins.cls = 2) (hh : opv p n o e h = some (v, w, h')) : AppTo h h' := by
  obtain ⟨sz, by', s, x, hi⟩ := cls2_app hc
  unfold opv at hh
  split at hh
  · cases hh; exact appTo_refl h
  · rw [hi] at hh; simp only [insv] at hh
    split at hh
    · rename_i v1 h1 hs; cases hh; exact append_to p hs
    · cases hh
  · cases hh
theorem opv_load_to {n : Nat} {o : GIns} {e : Env} {h h2 h' : H} {v w} (hc : o.ins.cls = 1) (hto : AppTo h h2) (hh : opv p n o e h = some (v, w, h')) : h' = h ∧ opv p n o e h2 = some (v, w, h2) := by
  obtain ⟨m, agg, a, hi⟩ := cls1_load hc
  cases hg : wantedA e o.guard with
  | none => simp only [opv, hg] at hh; cases hh
  | some t =>
    cases t with
    | false => simp only [opv, hg] at hh ⊢; cases hh; exact ⟨rfl, rfl⟩
    | true =>
      simp only [opv, hg, hi, insv] at hh ⊢
      split at hh
      · rename_i v1 h1 hs; cases hh
        obtain ⟨q1, q2⟩ := load_to p hto hs
        exact ⟨q1, by rw [q2]⟩
      · cases hh
theorem opv_load_back {n : Nat} {o : GIns} {e : Env} {h h2 h' : H} {v w} (hc : o.ins.cls = 1) (hto : AppTo h h2) (hh : opv p n o e h2 = some (v, w, h')) : h' = h2 ∧ opv p n o e h = some (v, w, h) := by
  obtain ⟨m, agg, a, hi⟩ := cls1_load hc
  cases hg : wantedA e o.guard with
  | none => simp only [opv, hg] at hh; cases hh
  | some t =>
    cases t with
    | false => simp only [opv, hg] at hh ⊢; cases hh; exact ⟨rfl, rfl⟩
    | true =>
      simp only [opv, hg, hi, insv] at hh ⊢
      split at hh
      · rename_i v1 h1 hs; cases hh
        obtain ⟨q1, q2⟩ := load_back p hto hs
        exact ⟨q1, by rw [q2]⟩
      · cases hh

omit p in
theorem set_other {e : Env} {k j : Nat} {v : AV} (h : j ≠ k) : (e.set k v) j = e j := by simp [Env.set, h]
theorem app_other {e : Env} {w d v} {j : Nat} (h1 : ∀ s u, w = some (s, u) → j ≠ s) (h2 : ∀ k, d = some k → j ≠ k) : app e w d v j = e j := by
  unfold app Env.dst
  cases d with
  | none => cases w with
    | none => rfl
    | some q => exact set_other (h1 q.1 q.2 rfl)
  | some k =>
    dsimp only
    rw [set_other (h2 k rfl)]
    cases w with
    | none => rfl
    | some q => exact set_other (h1 q.1 q.2 rfl)
theorem app_at {e e' : Env} {w d v} {j : Nat} (h : (∃ u, w = some (j, u)) ∨ d = some j) : app e w d v j = app e' w d v j := by
  unfold app Env.dst
  cases d with
  | none => cases w with
    | none => rcases h with ⟨u, h⟩ | h <;> cases h
    | some q => rcases h with ⟨u, h⟩ | h
                · cases h; simp [Env.set]
                · cases h
  | some k =>
    dsimp only
    by_cases hk : j = k
    · subst hk; simp [Env.set]
    · rw [set_other hk, set_other hk]
      cases w with
      | none => rcases h with ⟨u, h⟩ | h
                · cases h
                · cases h; exact absurd rfl hk
      | some q => rcases h with ⟨u, h⟩ | h
                  · cases h; simp [Env.set]
                  · cases h; exact absurd rfl hk

theorem app_comm {e : Env} {w1 d1 v1 w2 d2 v2} (h : ∀ j, ((∃ u, w1 = some (j, u)) ∨ d1 = some j) → ¬ ((∃ u, w2 = some (j, u)) ∨ d2 = some j)) :
    app (app e w1 d1 v1) w2 d2 v2 = app (app e w2 d2 v2) w1 d1 v1 := by
  funext j
  by_cases hj1 : (∃ u, w1 = some (j, u)) ∨ d1 = some j
  · have hj2 := h j hj1
    rw [app_other (e := app e w1 d1 v1) (fun s u hs hjs => hj2 (.inl ⟨u, by rw [hs, hjs]⟩)) (fun k hk hjk => hj2 (.inr (by rw [hk, hjk])))]
    exact app_at hj1
  · rw [app_other (e := app e w2 d2 v2) (fun s u hs hjs => hj1 (.inl ⟨u, by rw [hs, hjs]⟩)) (fun k hk hjk => hj1 (.inr (by rw [hk, hjk])))]
    by_cases hj2 : (∃ u, w2 = some (j, u)) ∨ d2 = some j
    · exact app_at hj2
    · have a1 : app (app e w1 d1 v1) w2 d2 v2 j = app e w1 d1 v1 j := app_other (fun s u hs hjs => hj2 (.inl ⟨u, by rw [hs, hjs]⟩)) (fun k hk hjk => hj2 (.inr (by rw [hk, hjk])))
      have a2 : app e w1 d1 v1 j = e j := app_other (fun s u hs hjs => hj1 (.inl ⟨u, by rw [hs, hjs]⟩)) (fun k hk hjk => hj1 (.inr (by rw [hk, hjk])))
      have a3 : app e w2 d2 v2 j = e j := app_other (fun s u hs hjs => hj2 (.inl ⟨u, by rw [hs, hjs]⟩)) (fun k hk hjk => hj2 (.inr (by rw [hk, hjk])))
      rw [a1, a2, a3]

theorem disj_ok {xs ys : List Nat} (h : disj xs ys = true) : ∀ x ∈ xs, x ∉ ys := by
  intro x hx hy
  have := List.all_eq_true.1 h x hx
  simp at this
  exact this hy

variable (p : AProg)
theorem swap_stlad {n : Nat} {x y : GIns} (hi : stlad x y = true) {e : Env} {h : H} {os : List GIns} {r} (hh : opsL p n (x :: y :: os) e h = some r) : opsL p n (y :: x :: os) e h = some r := by
  unfold stlad at hi
  split at hi
  · rename_i s m a x d s' off
    simp only [Bool.and_eq_true, beq_iff_eq, Bool.not_eq_true', List.contains_eq_mem, decide_eq_false_iff_not] at hi
    obtain ⟨rfl, hd⟩ := hi
    have hds : d ≠ s := fun hh => hd (by simp [hh])
    have hag : ∀ v, agree (e.set d v) e (osl a ++ x.sl) := fun v k hk => set_other (fun hkd => hd (by simp only [List.mem_cons]; exact .inr (hkd ▸ hk)))
    simp only [opsL, op1_eq, opv, wantedA, insv] at hh ⊢
    cases hx : stepP p e (.storeL s m a x) with
    | none => rw [hx] at hh; cases hh
    | some q =>
      rw [hx] at hh
      have hx0 := hx
      simp only [stepP] at hx
      split at hx
      · rename_i g cs v he hv
        have hL : ∀ u, stepP p (e.set d u) (.storeL s m a x) = stepP p e (.storeL s m a x) := fun u => by
          refine stepP_congr p ?_
          intro k hk
          simp only [PIns.rd, List.mem_cons] at hk
          rcases hk with rfl | hk
          · exact set_other (Ne.symm hds)
          · exact hag u k hk
        have hlad : stepP p e (.lad s off) = some (.lptr s g off, none) := by simp only [stepP, he]
        split at hx
        · split at hx
          · cases hx
            have hlad2 : ∀ cs', stepP p (app e (some (s, .lbox g cs')) none (.tup [])) (.lad s off) = some (.lptr s g off, none) := fun cs' => by
              simp [stepP, app, Env.dst, Env.set]
            simp only [hlad2] at hh
            simp only [hlad]
            have e1 : app e none (some d) (.lptr s g off) = e.set d (.lptr s g off) := rfl
            rw [e1, hL, hx0]
            simp only
            rw [← hh]
            congr 1
            simp only [app, Env.dst]
            funext k
            simp only [Env.set]
            by_cases hk : k = s
            · subst hk; rw [if_pos rfl, if_neg (Ne.symm hds), if_pos rfl]
            · rw [if_neg hk]; split <;> simp [hk]
          · cases hx
        · cases hx
      · cases hx
  · cases hi
/-- two neighbours change places -/
theorem swap2 {n : Nat} {x y : GIns} (hi : indep x y = true) {e : Env} {h : H} {os : List GIns} {r} (hh : opsL p n (x :: y :: os) e h = some r) : opsL p n (y :: x :: os) e h = some r := by
  simp only [indep, Bool.or_eq_true, Bool.and_eq_true] at hi
  rcases hi with hi | hi
  rotate_left
  · exact swap_stlad p hi hh
  obtain ⟨⟨hd1, hd2⟩, hcm⟩ := hi
  have d1 := disj_ok hd1
  have d2 := disj_ok hd2
  simp only [opsL, op1_eq] at hh ⊢
  cases hx : opv p n x e h with
  | none => rw [hx] at hh; cases hh
  | some q =>
    obtain ⟨vx, wx, hx'⟩ := q
    rw [hx] at hh
    simp only at hh
    cases hy : opv p n y (app e wx x.dst vx) hx' with
    | none => rw [hy] at hh; cases hh
    | some q =>
      obtain ⟨vy, wy, hy'⟩ := q
      rw [hy] at hh
      simp only at hh
      have wxm : ∀ j, ((∃ u, wx = some (j, u)) ∨ x.dst = some j) → j ∈ x.wr := by
        rintro j (⟨u, rfl⟩ | hj)
        · exact opv_wr p hx
        · unfold GIns.wr; rw [hj]; simp
      have wym : ∀ j, ((∃ u, wy = some (j, u)) ∨ y.dst = some j) → j ∈ y.wr := by
        rintro j (⟨u, rfl⟩ | hj)
        · exact opv_wr p hy
        · unfold GIns.wr; rw [hj]; simp
      have ay : agree (app e wx x.dst vx) e y.rd := fun k hk => app_other (fun s u hs hks => d1 k (wxm k (.inl ⟨u, by rw [hs, hks]⟩)) (List.mem_append_left _ hk)) (fun j hj hkj => d1 k (wxm k (.inr (by rw [hj, hkj]))) (List.mem_append_left _ hk))
      have ax : agree (app e wy y.dst vy) e x.rd := fun k hk => app_other (fun s u hs hks => d2 k (wym k (.inl ⟨u, by rw [hs, hks]⟩)) hk) (fun j hj hkj => d2 k (wym k (.inr (by rw [hj, hkj]))) hk)
      rw [opv_congr p ay] at hy
      have hcomm : app (app e wx x.dst vx) wy y.dst vy = app (app e wy y.dst vy) wx x.dst vx := app_comm fun j h1 h2 => d1 j (wxm j h1) (List.mem_append_right _ (wym j h2))
      have hmem : ∃ hyy, opv p n y e h = some (vy, wy, hyy) ∧ opv p n x e hyy = some (vx, wx, hy') := by
        simp only [compat, Bool.or_eq_true, Bool.and_eq_true, beq_iff_eq] at hcm
        rcases hcm with (((h0 | h0) | ⟨h1, h2⟩) | ⟨h1, h2⟩) | ⟨h1, h2⟩
        · obtain ⟨rfl, hall⟩ := opv_cls0 p h0 hx
          exact ⟨hy', hy, hall hy'⟩
        · obtain ⟨rfl, hall⟩ := opv_cls0 p h0 hy
          exact ⟨h, hall h, hx⟩
        · have e1 := opv_cls1 p h1 hx
          have e2 := opv_cls1 p h2 hy
          subst e1; subst e2
          exact ⟨_, hy, hx⟩
        · have e1 := opv_cls1 p h1 hx
          subst e1
          exact ⟨hy', hy, (opv_load_to p h1 (opv_app p h2 hy) hx).2⟩
        · obtain ⟨e1, e2⟩ := opv_load_back p h2 (opv_app p h1 hx) hy
          subst e1
          exact ⟨h, e2, hx⟩
      obtain ⟨hyy, q1, q2⟩ := hmem
      rw [q1]
      simp only
      rw [opv_congr p ax, q2]
      simp only
      rw [← hcomm]
      exact hh

theorem opsL_cons_congr {n : Nat} {x : GIns} {as bs : List GIns} (hab : ∀ e h r, opsL p n as e h = some r → opsL p n bs e h = some r) {e h r} (hh : opsL p n (x :: as) e h = some r) : opsL p n (x :: bs) e h = some r := by
  unfold opsL at hh ⊢
  split at hh
  · exact hab _ _ _ hh
  · cases hh

theorem front {n : Nat} {x : GIns} : ∀ (as : List GIns) (bs : List GIns), (∀ a ∈ as, indep a x = true) → ∀ e h r, opsL p n (as ++ x :: bs) e h = some r → opsL p n (x :: (as ++ bs)) e h = some r
  | [], bs, _, e, h, r, hh => hh
  | a :: as, bs, ha, e, h, r, hh => by
    have ih := front (n := n) as bs fun y hy => ha y (by simp [hy])
    have h1 : opsL p n (a :: x :: (as ++ bs)) e h = some r := opsL_cons_congr p (fun e h r q => ih e h r q) hh
    exact swap2 p (ha a (by simp)) h1

/-- a list of places in another order -/
theorem reorder {n : Nat} (g : Nat → GIns) : ∀ (l R : List Nat), R.Nodup → l.Perm R → (∀ (A : List Nat) (i : Nat) (C : List Nat), l = A ++ i :: C → ∀ j, j ∈ C → (∃ P Q, R = P ++ j :: Q ∧ i ∈ Q) → indep (g j) (g i) = true) →
    ∀ e h r, opsL p n (R.map g) e h = some r → opsL p n (l.map g) e h = some r
  | [], R, _, hp, _, e, h, r, hh => by
    have : R = [] := by simpa using hp.symm
    subst this; exact hh
  | i :: l, R, hn, hp, hv, e, h, r, hh => by
    have hiR : i ∈ R := hp.subset (by simp)
    obtain ⟨A, B, rfl⟩ := List.append_of_mem hiR
    have hp' : l.Perm (A ++ B) := by
      have h1 : (A ++ i :: B).Perm (i :: (A ++ B)) := List.perm_middle
      exact List.Perm.cons_inv (hp.trans h1)
    have hn' : (A ++ B).Nodup := by
      have h1 : (A ++ i :: B).Perm (i :: (A ++ B)) := List.perm_middle
      exact (List.nodup_cons.1 (h1.nodup_iff.1 hn)).2
    have hiAB : i ∉ A ++ B := by
      have h1 : (A ++ i :: B).Perm (i :: (A ++ B)) := List.perm_middle
      exact (List.nodup_cons.1 (h1.nodup_iff.1 hn)).1
    rw [List.map_append, List.map_cons] at hh
    have h1 := front p (A.map g) (B.map g) (fun a ha => by
      obtain ⟨j, hj, rfl⟩ := List.mem_map.1 ha
      obtain ⟨P, Q, rfl⟩ := List.append_of_mem hj
      refine hv [] i l rfl j ?_ ⟨P, Q ++ i :: B, by simp, by simp⟩
      exact hp'.symm.subset (by simp)) e h r hh
    rw [List.map_cons]
    refine opsL_cons_congr p (fun e h r q => ?_) h1
    rw [← List.map_append] at q
    refine reorder g l (A ++ B) hn' hp' (fun A' i' C hl j hj hex => ?_) e h r q
    refine hv (i :: A') i' C (by rw [hl]; rfl) j hj ?_
    obtain ⟨P, Q, hPQ, hiQ⟩ := hex
    -- put i back
    rcases List.append_eq_append_iff.1 hPQ with ⟨as, h1, h2⟩ | ⟨bs, h1, h2⟩
    · exact ⟨A ++ i :: as, Q, by rw [h2]; simp, hiQ⟩
    · cases bs with
      | nil =>
        simp at h1 h2
        subst h1
        exact ⟨A ++ [i], Q, by rw [← h2]; simp, hiQ⟩
      | cons c bs =>
        simp at h2
        obtain ⟨rfl, rfl⟩ := h2
        refine ⟨P, bs ++ i :: B, by rw [h1]; simp, ?_⟩
        rcases List.mem_append.1 hiQ with hq | hq
        · exact List.mem_append_left _ hq
        · exact List.mem_append_right _ (by simp [hq])
end
end Av
end

section
/- A drawn order gives what the text's order gives. -/
namespace Av
open Go

section
variable (p : AProg) {n : Nat} {ops : Array Oper} {g : Nat → GIns} {b : List Nat}

def left (ops : Array Oper) (listed : Array Bool) : List Nat := (List.range ops.size).filter fun i => !listed.getD i true

theorem go_ok (hback : ∀ i o, ops[i]? = some o → ∀ e ∈ o.after, Region.binds .any e = true → e.on < i) (hclo : befsOK ops b = true)
    (hpair : ∀ i j, i < j → j < ops.size → (b.getD j 0).testBit i = true ∨ indep (g i) (g j) = true) :
    ∀ (fuel t : Nat) (listed : Array Bool), listed.size = ops.size → (left ops listed).length ≤ fuel → (∀ i j, i < ops.size → listed.getD i true = true → j < ops.size → (b.getD i 0).testBit j = true → listed.getD j true = true) →
    ∀ e h r, opsL p n ((left ops listed).map g) e h = some r → opsL p n ((Region.linearise.go .any ops fuel t listed []).map g) e h = some r := by
  intro fuel
  induction fuel with
  | zero =>
    intro t listed hsz hl _ e h r hh
    have : left ops listed = [] := List.length_eq_zero_iff.1 (by omega)
    rw [this] at hh
    simpa [Region.linearise.go] using hh
  | succ fuel ih =>
    intro t listed hsz hl hinv e h r hh
    simp only [Region.linearise.go]
    change opsL p n ((match (Region.ready .any ops listed)[t % (Region.ready .any ops listed).length]? with
      | some i => Region.linearise.go .any ops fuel (t / (Region.ready .any ops listed).length) (listed.setIfInBounds i true) [i]
      | none => [].reverse).map g) e h = some r
    have hrl : ∀ i, i ∈ Region.ready .any ops listed ↔ i ∈ left ops listed ∧ ((ops[i]?).map (·.after.all fun e => !Region.binds .any e || listed.getD e.on false)).getD false = true := by
      intro i
      simp only [Region.ready, left, List.mem_filter, Bool.and_eq_true]
      constructor
      · rintro ⟨h1, h2, h3⟩; exact ⟨⟨h1, h2⟩, h3⟩
      · rintro ⟨⟨h1, h2⟩, h3⟩; exact ⟨h1, h2, h3⟩
    cases hi : (Region.ready .any ops listed)[t % (Region.ready .any ops listed).length]? with
    | none =>
      have hnil : Region.ready .any ops listed = [] := by
        cases hr : Region.ready .any ops listed with
        | nil => rfl
        | cons x xs =>
          rw [hr] at hi
          have hlt : t % (x :: xs).length < (x :: xs).length := Nat.mod_lt _ (by simp)
          simp at hi
          simp at hlt
          omega
      have hempty : left ops listed = [] := by
        cases hlf : left ops listed with
        | nil => rfl
        | cons i rest =>
          exfalso
          have hmem : i ∈ left ops listed := by rw [hlf]; simp
          have hmin : ∀ j ∈ left ops listed, i ≤ j := by
            have hs : (left ops listed).Pairwise (· < ·) := List.Pairwise.filter _ List.pairwise_lt_range
            rw [hlf] at hs ⊢
            intro j hj
            rcases List.mem_cons.1 hj with rfl | hj
            · exact Nat.le_refl _
            · exact Nat.le_of_lt (List.rel_of_pairwise_cons hs hj)
          have hilt : i < ops.size := by simp [left] at hmem; exact hmem.1
          have : i ∈ Region.ready .any ops listed := (hrl i).2 ⟨hmem, by
            rw [Array.getElem?_eq_getElem hilt]
            simp only [Option.map_some, Option.getD_some]
            refine Array.all_eq_true_iff_forall_mem.2 fun e he => ?_
            cases hb : Region.binds .any e with
            | false => rfl
            | true =>
              have hlt := hback i ops[i] (Array.getElem?_eq_getElem hilt) e he hb
              have hnot : e.on ∉ left ops listed := fun hm => by have := hmin _ hm; omega
              have hsl : e.on < listed.size := by omega
              simp only [left, List.mem_filter, List.mem_range, not_and, Bool.not_eq_true', Bool.not_eq_false] at hnot
              have := hnot (by omega)
              simp [hsl] at this ⊢
              exact this⟩
          rw [hnil] at this; cases this
      rw [hempty] at hh
      simpa using hh
    | some i =>
      simp only []
      rw [linearise_go_acc, List.reverse_singleton, List.singleton_append, List.map_cons]
      have hir := (hrl i).1 (List.mem_of_getElem? hi)
      obtain ⟨hil, hready⟩ := hir
      have hilt : i < ops.size := by simp [left] at hil; exact hil.1
      rw [Array.getElem?_eq_getElem hilt] at hready
      simp only [Option.map_some, Option.getD_some] at hready
      have hall := Array.all_eq_true_iff_forall_mem.1 hready
      obtain ⟨A, B, hAB⟩ := List.append_of_mem hil
      have hsort : (left ops listed).Pairwise (· < ·) := List.Pairwise.filter _ List.pairwise_lt_range
      have hbits : ∀ j, j < ops.size → (b.getD i 0).testBit j = true → listed.getD j true = true := by
        intro j hj hbit
        have h1 := List.all_eq_true.1 hclo i (List.mem_range.2 hilt)
        have h2 := List.all_eq_true.1 h1 j (List.mem_range.2 hj)
        rw [hbit, Array.getElem?_eq_getElem hilt] at h2
        simp only [Bool.not_true, Bool.false_or, List.any_eq_true, Bool.and_eq_true, Bool.or_eq_true, beq_iff_eq] at h2
        obtain ⟨e', he', hb', hor⟩ := h2
        have he'' : e' ∈ ops[i].after := by simpa using he'
        have hlis := hall e' he''
        rw [hb'] at hlis
        simp only [Bool.not_true, Bool.false_or] at hlis
        have hlt := hback i ops[i] (Array.getElem?_eq_getElem hilt) e' he'' hb'
        have hlis' : listed.getD e'.on true = true := by
          have : e'.on < listed.size := by omega
          simp [this] at hlis ⊢; exact hlis
        rcases hor with rfl | hor
        · exact hlis'
        · exact hinv e'.on j (by omega) hlis' hj hor
      have hA : ∀ a ∈ A, indep (g a) (g i) = true := by
        intro a ha
        have hal : a ∈ left ops listed := by rw [hAB]; simp [ha]
        have hlt : a < i := by
          rw [hAB, List.pairwise_append] at hsort
          exact hsort.2.2 a ha i (by simp)
        have haN : listed.getD a true = false := by simp [left] at hal; simpa using hal.2
        rcases hpair a i hlt hilt with hb | hb
        · have := hbits a (by omega) hb
          rw [haN] at this; cases this
        · exact hb
      rw [hAB, List.map_append, List.map_cons] at hh
      have h1 := front p (A.map g) (B.map g) (fun a ha => by obtain ⟨j, hj, rfl⟩ := List.mem_map.1 ha; exact hA j hj) e h r hh
      refine opsL_cons_congr p (fun e h r q => ?_) h1
      have hnew : left ops (listed.setIfInBounds i true) = A ++ B := by
        have hnd : (left ops listed).Nodup := List.Pairwise.imp (fun h => Nat.ne_of_lt h) hsort
        have e1 : left ops (listed.setIfInBounds i true) = (left ops listed).filter (fun j => decide (j ≠ i)) := by
          unfold left
          rw [List.filter_filter]
          refine List.filter_congr fun j hj => ?_
          by_cases hji : j = i
          · subst hji
            have : j < listed.size := by omega
            simp [this]
          · simp [Array.getElem?_setIfInBounds_ne (Ne.symm hji), hji]
        rw [e1, hAB] at *
        rw [List.nodup_append] at hnd
        obtain ⟨n1, n2, n3⟩ := hnd
        have n2' := List.nodup_cons.1 n2
        rw [List.filter_append, List.filter_cons]
        simp only [ne_eq, not_true_eq_false, decide_false, Bool.false_eq_true, if_false]
        congr 1
        · exact List.filter_eq_self.2 fun a ha => by simpa using n3 a ha i (by simp)
        · exact List.filter_eq_self.2 fun a ha => by
            have : a ≠ i := fun hh => n2'.1 (hh ▸ ha)
            simpa using this
      refine ih _ _ (by simpa using hsz) (by rw [hnew]; rw [hAB] at hl; simp at hl ⊢; omega) (fun i' j hi' hli hj hbit => ?_) e h r (by rw [hnew, List.map_append]; exact q)
      have hset : ∀ j, listed.getD j true = true → (listed.setIfInBounds i true).getD j true = true := by
        intro j hj
        by_cases hji : j = i
        · subst hji
          have : j < listed.size := by omega
          simp [this]
        · simp [Array.getElem?_setIfInBounds_ne (Ne.symm hji)] at hj ⊢; exact hj
      by_cases hii : i' = i
      · subst hii; exact hset j (hbits j hj hbit)
      · refine hset j (hinv i' j hi' ?_ hj hbit)
        simp [Array.getElem?_setIfInBounds_ne (Ne.symm hii)] at hli ⊢; exact hli

/-- a region's drawn order -/
theorem draw_ok {gs : List GIns} (hlen : gs.length = ops.size) (hd : drawOK ops gs = true) (t : Nat) {e h r} (hh : opsL p n gs e h = some r) :
    opsL p n ((Region.linearise .any ops t).map fun i => gs.getD i default) e h = some r := by
  simp only [drawOK, Bool.and_eq_true] at hd
  obtain ⟨⟨h1, h2⟩, h3⟩ := hd
  unfold Region.linearise
  have hnone : left ops (Array.replicate ops.size false) = List.range ops.size := by
    unfold left
    refine List.filter_eq_self.2 fun i hi => ?_
    simp at hi; simp [hi]
  refine go_ok p (g := fun i => gs.getD i default) (b := befs ops.toList) (fun i o ho e he hb => ?_) h2 (fun i j hij hj => ?_) ops.size t _ (by simp) (by rw [hnone]; simp) (fun i j hi hli => ?_) e h r ?_
  · have hm : (o, i) ∈ ops.toList.zipIdx := by
      rw [List.mem_iff_getElem?]; exact ⟨i, by simp [List.getElem?_zipIdx, ho]⟩
    have := List.all_eq_true.1 h1 _ hm
    have := List.all_eq_true.1 this e (by simpa using he)
    rw [hb] at this
    simpa using this
  · have hi' : i < gs.length := by omega
    have hj' : j < gs.length := by omega
    have m1 : (gs[i], i) ∈ gs.zipIdx := by
      rw [List.mem_iff_getElem?]; exact ⟨i, by simp [List.getElem?_zipIdx, hi']⟩
    have m2 : (gs[j], j) ∈ gs.zipIdx := by
      rw [List.mem_iff_getElem?]; exact ⟨j, by simp [List.getElem?_zipIdx, hj']⟩
    have := List.all_eq_true.1 h3 _ m1
    have := List.all_eq_true.1 this _ m2
    simp only [Bool.or_eq_true, decide_eq_true_eq] at this
    have e1 : gs.getD i default = gs[i] := by simp [hi']
    have e2 : gs.getD j default = gs[j] := by simp [hj']
    rw [e1, e2]
    rcases this with (hle | hb) | hb
    · omega
    · exact .inl hb
    · exact .inr hb
  · simp [hi] at hli
  · rw [hnone]
    have : (List.range ops.size).map (fun i => gs.getD i default) = gs := by
      apply List.ext_getElem?
      intro i
      by_cases hi : i < ops.size
      · simp [hi, show i < gs.length by omega]
      · simp [hi]; omega
    rw [this]; exact hh
end
end Av
end

section
/- Lists of operations, results, boxes that come to stay. -/
namespace Av
open Go

section
variable {P : Program} {chk : Nat → List Nat → Code → ACode → Bool} {p : AProg} {N : Nat} {B D : List Nat} {S0 : Gh} {H0 : H} {w0 : World} {S : Gh} {H : H} {Pv : Nat → Option Nat} {e : Env} {tmps : Array Value} {w : World} {v : AV}
variable {b : Frame} {ds : List Deferred} {k : List Item} {cs : List Frame} {ops : Array Oper}

theorem ops_ok {n : Nat} (hG : Good P chk p n) (hgl : ∀ g, cleans (p.glob g) = true) {g : Nat → GIns} : ∀ (l : List Nat), (∀ i ∈ l, ∃ o, ops[i]? = some o ∧ chkG P N B ops o (g i) = true) →
    ∀ {S : Gh} {H : Av.H} {Pv : Nat → Option Nat} {e : Env} {tmps : Array Value} {w : World} {e' : Env} {H' : Av.H}, FS chk p.glob N B D S0 H0 w0 S H Pv e tmps w → opsL p n (l.map g) e H = some (e', H') →
    OpOK P chk p.glob N B D S0 H0 w0 (lone (b.atR ⟨tmps, ds⟩ (.inRegion ops l :: k)) cs w) b ds k cs e' H'
  | [], _, S, H, Pv, e, tmps, w, e', H', h, hs => by
    simp [opsL] at hs; obtain ⟨rfl, rfl⟩ := hs
    exact ⟨S, Pv, tmps, w, .one stepR_region_end, h⟩
  | i :: l, hl, S, H, Pv, e, tmps, w, e', H', h, hs => by
    obtain ⟨o, ho, hc⟩ := hl i (by simp)
    rw [List.map_cons] at hs
    unfold opsL at hs
    split at hs
    · rename_i e1 H1 h1
      obtain ⟨S1, Pv1, t1, w1, st1, f1⟩ := op1_ok (b := b) (ds := ds) (k := k) (cs := cs) (rest := l) hG hgl h ho hc h1
      obtain ⟨S2, Pv2, t2, w2, st2, f2⟩ := ops_ok hG hgl l (fun j hj => hl j (by simp [hj])) f1 hs
      exact ⟨S2, Pv2, t2, w2, st1.trans st2, f2⟩
    · cases hs

theorem chkGs_get : ∀ {os : List Oper} {gs : List GIns}, chkGs P N B ops os gs = true → gs.length = os.length ∧ ∀ (i : Nat) o, os[i]? = some o → chkG P N B ops o (gs.getD i default) = true
  | [], [], _ => ⟨rfl, fun i o h => by simp at h⟩
  | o :: os, g :: gs, h => by
    simp only [chkGs, Bool.and_eq_true] at h
    obtain ⟨h1, h2⟩ := chkGs_get h.2
    refine ⟨by simp [h1], fun i o' ho => ?_⟩
    cases i with
    | zero => simp at ho; subst ho; simpa using h.1
    | succ i => simp at ho; simpa using h2 i o' ho
  | [], _ :: _, h => by simp [chkGs] at h
  | _ :: _, [], h => by simp [chkGs] at h

/-- a region -/
theorem region_ok {n : Nat} (hmix : P.follows .mixedOrders = true) (hG : Good P chk p n) (hgl : ∀ g, cleans (p.glob g) = true) {id : Nat} {draw : Bool} {gs : List GIns} (hc : chkGs P N B ops ops.toList gs = true) (hdr : (!draw || drawOK ops gs) = true)
    (h : FS chk p.glob N B D S0 H0 w0 S H Pv e tmps w) {e' : Env} {H' : Av.H} (hs : opsL p n gs e H = some (e', H')) :
    OpOK P chk p.glob N B D S0 H0 w0 (lone (b.atR ⟨tmps, ds⟩ (.code (.region id ops draw) :: k)) cs w) b ds k cs e' H' := by
  obtain ⟨hlen, hget⟩ := chkGs_get hc
  have hlen' : gs.length = ops.size := by simpa using hlen
  cases draw with
  | false =>
    have : (List.range ops.size).map (fun i => gs.getD i default) = gs := by
      apply List.ext_getElem?
      intro i
      by_cases hi : i < ops.size
      · simp [hi, show i < gs.length by omega]
      · simp [hi]; omega
    obtain ⟨S2, Pv2, t2, w2, st2, f2⟩ := ops_ok (b := b) (ds := ds) (k := k) (cs := cs) (ops := ops) (g := fun i => gs.getD i default) hG hgl (List.range ops.size) (fun i hi => ⟨ops[i]'(by simpa using hi), by simp at hi; simp [hi], hget i _ (by simp at hi; simp [hi])⟩) h (by rw [this]; exact hs)
    exact ⟨S2, Pv2, t2, w2, .head stepR_region st2, f2⟩
  | true =>
    have hd : drawOK ops gs = true := by simpa using hdr
    have hord := draw_ok p (ops := ops) hlen' hd (w.tape w.drawn (.order b.fn id)) hs
    have hsub : ∀ i ∈ Region.linearise .any ops (w.tape w.drawn (.order b.fn id)), i < ops.size := by
      have key : ∀ (fuel t : Nat) (listed : Array Bool) (i : Nat), i ∈ Region.linearise.go .any ops fuel t listed [] → i < ops.size := by
        intro fuel
        induction fuel with
        | zero => intro t listed i hi; simp [Region.linearise.go] at hi
        | succ fuel ih =>
          intro t listed i hi
          simp only [Region.linearise.go] at hi
          change i ∈ (match (Region.ready .any ops listed)[t % (Region.ready .any ops listed).length]? with
            | some i => Region.linearise.go .any ops fuel (t / (Region.ready .any ops listed).length) (listed.setIfInBounds i true) [i]
            | none => [].reverse) at hi
          split at hi
          · rename_i j hj
            rw [linearise_go_acc] at hi
            simp at hi
            rcases hi with rfl | hi
            · have := List.mem_of_getElem? hj
              simp [Region.ready] at this; exact this.1
            · exact ih _ _ _ hi
          · simp at hi
      exact fun i hi => key _ _ _ i hi
    obtain ⟨S2, Pv2, t2, w2, st2, f2⟩ := ops_ok (b := b) (ds := ds) (k := k) (cs := cs) (ops := ops) (g := fun i => gs.getD i default) hG hgl _ (fun i hi => ⟨ops[i]'(hsub i hi), by have := hsub i hi; simp [this], hget i _ (by have := hsub i hi; simp [this])⟩) h.drew hord
    refine ⟨S2, Pv2, t2, w2, .head stepR_region_draw ?_, f2⟩
    simp only [Region.schedule, hmix, Bool.true_or, if_true]
    exact st2

/-- boxes that come to stay -/
theorem frz_ok : ∀ {ss : List Nat} {S : Gh} {Pv : Nat → Option Nat} {e e' : Env}, (∀ s ∈ ss, s < N) → FS chk p.glob N B D S0 H0 w0 S H Pv e tmps w → frzE e ss = some e' →
    ∃ S' Pv', FS chk p.glob N B D S0 H0 w0 S' H Pv' e' tmps w
  | [], S, Pv, e, e', _, h, hs => by simp [frzE] at hs; subst hs; exact ⟨S, Pv, h⟩
  | s :: ss, S, Pv, e, e', hN, h, hs => by
    unfold frzE at hs
    split at hs
    · rename_i g cs' hg
      obtain ⟨c, arr, t, h1, h2, h3, h4⟩ := h.fr.lb s g cs' (hN s (by simp)) hg
      have hGn : ∀ o, S.G c o = none := fun o => h.pv.G s c o h1
      have hno := h.pv.own s c h1
      have hle : S.le (S.addG c (arr[·]?)) := Gh.le_addG fun o v hv => by rw [hGn] at hv; cases hv
      have hWR := h.wr.addG (f := (arr[·]?)) (fun o v hv => by rw [hGn] at hv; cases hv) (fun o v hv => by rw [cell_of_row w c o arr t _ h3]; exact hv) hno
      have hVR : VR (S.addG c (arr[·]?)) (.cptr cs') (tmps.getD s undef) := by
        rw [h2]
        refine .cptr _ c 0 (fun i => arr.toList.getD i undef) (fun i hi => ?_) fun i hi => (h4.2 i hi).mono hle
        have : i < arr.size := by have := h4.1; simp at this; omega
        simp [Gh.addG, this]
      have hFR := h.fr.freeze hle (hN s (by simp)) hg hVR ⟨c, h2⟩
      have hif : ∀ k c', (if k = s then none else Pv k) = some c' → k ≠ s ∧ Pv k = some c' := by
        intro k c' hk
        split at hk
        · cases hk
        · rename_i hh; exact ⟨hh, hk⟩
      have hFS : FS chk p.glob N B D S0 H0 w0 (S.addG c (arr[·]?)) H (fun k => if k = s then none else Pv k) (e.set s (.fbox g cs')) tmps w := by
        refine ⟨hWR, hFR, ⟨fun k c' hk => h.pv.lt k c' (hif k c' hk).2, fun k c' hk => h.pv.own k c' (hif k c' hk).2, fun k c' o hk => ?_, fun k k' c' hk hk' => h.pv.inj k k' c' (hif k c' hk).2 (hif k' c' hk').2, fun k c' hk => h.pv.M k c' (hif k c' hk).2, h.pv.df, h.pv.nd, fun k c' hk => h.pv.PD k c' (hif k c' hk).2⟩, ?_, fun k c' hk => h.nw k c' (hif k c' hk).2, h.nd⟩
        · obtain ⟨hks, hk⟩ := hif k c' hk
          have : c' ≠ c := fun hh => hks (h.pv.inj k s c (hh ▸ hk) h1)
          simp only [Gh.addG]; rw [if_neg this]; exact h.pv.G k c' o hk
        · refine ⟨h.kp.le.trans hle, h.kp.sz, h.kp.old, h.kp.own, fun c' o hc' hno' => ?_, h.kp.M, h.kp.sm⟩
          have : c' ≠ c := by have := h.nw s c h1; omega
          simp only [Gh.addG]; rw [if_neg this]; exact h.kp.G c' o hc' hno'
      exact frz_ok (fun s' hs' => hN s' (by simp [hs'])) hFS hs
    · exact frz_ok (fun s' hs' => hN s' (by simp [hs'])) h hs
    · cases hs

def rdVar (tmps : Array Value) : ResultVar → Sem Value
  | .tmp t => pure (tmps.getD t undef)
  | .cell a t => do loadVar t (← asAddr (tmps.getD a undef))

/-- a function's results -/
theorem res_ok (hw : WR chk p.glob S H w) (hf : FR N B S Pv e tmps w) : ∀ {rs : List ResultVar} {qs : List Res} {vs : List AV}, chkRes P N B rs qs = true → rdRess p e H qs = some vs →
    ∃ us : List Value, (rs.mapM (rdVar tmps)).run P w = .ok us w ∧ VRs S vs us
  | [], [], vs, _, hs => by simp [rdRess] at hs; subst hs; exact ⟨[], by simp, .nil⟩
  | r :: rs, q :: qs, vs, hc, hs => by
    unfold rdRess at hs
    split at hs
    · rename_i v vs' hv hvs
      cases hs
      obtain ⟨hc1, hc2⟩ : (∃ u, (rdVar tmps r).run P w = .ok u w ∧ VR S v u) ∧ chkRes P N B rs qs = true := by
        unfold chkRes at hc
        split at hc
        · rename_i heq _; cases heq
        · rename_i k1 rs1 j1 qs1 e1 e2
          cases e1; cases e2
          simp only [Bool.and_eq_true, beq_iff_eq, decide_eq_true_eq] at hc
          obtain ⟨⟨rfl, hN⟩, hc⟩ := hc
          refine ⟨⟨tmps.getD k1 undef, by simp [rdVar], ?_⟩, hc⟩
          simp only [rdRes] at hv
          exact ev_ok (x := .tmp k1) hw hf (by simp [chkX, hN]) hv
        · rename_i k1 t1 rs1 j1 n1 a1 qs1 e1 e2
          cases e1; cases e2
          simp only [Bool.and_eq_true, beq_iff_eq, decide_eq_true_eq] at hc
          obtain ⟨⟨⟨rfl, hN⟩, hld⟩, hc⟩ := hc
          have hn : a1 = true ∨ n1 = 1 := by
            simp only [ldT, Bool.and_eq_true, Bool.or_eq_true, beq_iff_eq] at hld; exact hld.2
          refine ⟨?_, hc⟩
          simp only [rdRes] at hv
          split at hv
          · rename_i bb o' he
            have hval := hf.val k1 hN (by rw [he]; rfl)
            rw [he] at hval
            obtain ⟨c, hρ, hE⟩ := hval.ptr_inv
            obtain ⟨_, ao, hg, hOR⟩ := hw.dom bb c hρ
            split at hv
            · rename_i cs' hb
              rw [hb] at hg; cases hg
              obtain ⟨arr, el, q1, q2, q3, q4⟩ := hOR
              have hl := part_len hv
              have hP := part_VR (S := S) hv (us := fun i => arr.getD (o' + i) undef) (fun i h5 h6 => by rw [show o' + (i - o') = i by omega]; exact q4 i (by omega)) hn
              refine ⟨_, ?_, hP.1⟩
              simp only [rdVar, hE, Sem.run_bind, asAddr, Sem.run_pure, Result.andThen_ok]
              exact load_run hld fun i hi => by rw [cell_of_row w c _ arr el _ q1]; simp [show o' + i < arr.size by omega]
            · rename_i cs' hb
              rw [hb] at hg; cases hg
              have hl := part_len hv
              have hP := part_VR (S := S) hv (us := fun i => (S.G c (o' + i)).getD undef) (fun i h5 h6 => by
                obtain ⟨x, hx, hV⟩ := hOR i (by omega)
                rw [show o' + (i - o') = i by omega, hx]; exact hV) hn
              refine ⟨_, ?_, hP.1⟩
              simp only [rdVar, hE, Sem.run_bind, asAddr, Sem.run_pure, Result.andThen_ok]
              exact load_run hld fun i hi => by
                obtain ⟨x, hx, hV⟩ := hOR (o' + i) (by omega)
                rw [hx]; exact hw.G _ _ _ hx
            · cases hv
          · cases hv
        · rename_i k1 t1 rs1 j1 n1 a1 qs1 e1 e2
          cases e1; cases e2
          simp only [Bool.and_eq_true, beq_iff_eq, decide_eq_true_eq] at hc
          obtain ⟨⟨⟨⟨rfl, hN⟩, _⟩, hld⟩, hc⟩ := hc
          have hn : a1 = true ∨ n1 = 1 := by
            simp only [ldT, Bool.and_eq_true, Bool.or_eq_true, beq_iff_eq] at hld; exact hld.2
          refine ⟨?_, hc⟩
          simp only [rdRes] at hv
          have key : ∀ g cs', (e k1 = .lbox g cs' ∨ e k1 = .fbox g cs') → part cs' 0 n1 a1 = some v → ∃ u, (rdVar tmps (.cell k1 t1)).run P w = .ok u w ∧ VR S v u := by
            intro g cs' he hv
            obtain ⟨c, us, hcs, hU⟩ := lbox_cells hw hf hN he
            have hl := part_len hv
            have hP := part_VR (S := S) hv (us := us) (fun i h5 h6 => (hU i (by omega)).2) hn
            refine ⟨_, ?_, hP.1⟩
            simp only [rdVar, hcs, Sem.run_bind, asAddr, Sem.run_pure, Result.andThen_ok]
            exact load_run hld fun i hi => by rw [Nat.zero_add]; exact (hU i (by omega)).1
          split at hv
          · rename_i g cs' he; exact key g cs' (.inl he) hv
          · rename_i g cs' he; exact key g cs' (.inr he) hv
          · cases hv
        · cases hc
      obtain ⟨u, hu, hU⟩ := hc1
      obtain ⟨us, hus, hUs⟩ := res_ok hw hf hc2 hvs
      refine ⟨u :: us, ?_, .cons hU hUs⟩
      rw [List.mapM_cons]
      simp [hu, hus]
    · cases hs
  | [], _ :: _, _, hc, _ => by simp [chkRes] at hc
  | _ :: _, [], _, hc, _ => by simp [chkRes] at hc
end
end Av
end

section
/- A body's run, as steps of the machine. -/
namespace Av
open Go

/-- the test that the kernel makes, in rounds -/
def chkR (P : Program) (N : Nat) (B : List Nat) (c : Code) (a : ACode) : Bool := chkC P N B c a

def Reach (P : Program) (m : Machine) (b : Frame) (a : Act) (k : List Item) (cs : List Frame) (w : World) : Out → Prop
  | .normal => Steps P m (lone (b.atR a k) cs w)
  | .exit id => ∃ k1, exitTo id k1 = exitTo id k ∧ Steps P m (lone (b.atR a (.code (.exit id) :: k1)) cs w)
  | .ret => ∃ k1, Steps P m (lone (b.atR a (.code .ret :: k1)) cs w)

theorem Reach.of_steps {P : Program} {m m1 : Machine} {b : Frame} {a : Act} {k : List Item} {cs : List Frame} {w : World} {o : Out} (h : Steps P m m1) (hr : Reach P m1 b a k cs w o) : Reach P m b a k cs w o := by
  cases o with
  | normal => exact h.trans hr
  | exit id => obtain ⟨k1, h1, h2⟩ := hr; exact ⟨k1, h1, h.trans h2⟩
  | ret => obtain ⟨k1, h1⟩ := hr; exact ⟨k1, h.trans h1⟩

def dsOf (D : List Nat) : List Deferred := D.map fun d => { target := .collected d, args := #[] }

/-- what a body's run leads to -/
def RunOK (P : Program) (chk : Nat → List Nat → Code → ACode → Bool) (gl : Nat → List AV) (N : Nat) (B : List Nat) (S0 : Gh) (H0 : Av.H) (w0 : World) (m : Machine) (b : Frame) (D : List Nat) (k : List Item) (cs : List Frame) (o : Out) (e' : Env) (H' : Av.H) : Prop :=
  ∃ S' Pv' tmps' w' D', Reach P m b ⟨tmps', dsOf D'⟩ k cs w' o ∧ FS chk gl N B D' S0 H0 w0 S' H' Pv' e' tmps' w' ∧ (b.roundOf ≠ none → D' = D)

theorem RunOK.of_steps {P : Program} {chk : Nat → List Nat → Code → ACode → Bool} {gl : Nat → List AV} {N : Nat} {B : List Nat} {S0 : Gh} {H0 : Av.H} {w0 : World} {m m1 : Machine} {b : Frame} {D : List Nat} {k : List Item} {cs : List Frame} {o : Out} {e' : Env} {H' : Av.H}
    (hs : Steps P m m1) (h : RunOK P chk gl N B S0 H0 w0 m1 b D k cs o e' H') : RunOK P chk gl N B S0 H0 w0 m b D k cs o e' H' := by
  obtain ⟨S', Pv', t', w', D', h1, h2, h3⟩ := h
  exact ⟨S', Pv', t', w', D', h1.of_steps hs, h2, h3⟩

/-- a round's loop is there -/
def RO (b : Frame) (w : World) : Prop := ∀ c, b.roundOf = some c → isLp w.heap[c]? = true
/-- all bodies at a fuel -/
def Runs (P : Program) (p : AProg) (n : Nat) : Prop :=
  ∀ c e h o e' h', exec p n c e h = some (o, e', h') → ∀ C N B D S0 H0 w0 S Pv tmps w b k cs, chkC P N B C c = true → RO b w0 →
    FS (chkR P) p.glob N B D S0 H0 w0 S h Pv e tmps w → RunOK P (chkR P) p.glob N B S0 H0 w0 (lone (b.atR ⟨tmps, dsOf D⟩ (.code C :: k)) cs w) b D k cs o e' h'

section
variable {P : Program} {p : AProg} {N : Nat} {B D : List Nat} {S0 : Gh} {H0 : H} {w0 : World} {S : Gh} {H : H} {Pv : Nat → Option Nat} {e : Env} {tmps : Array Value} {w : World} {v : AV}
variable {b : Frame} {ds : List Deferred} {k : List Item} {cs : List Frame}

theorem enter_run {fn : FuncId} {params : Array Tmp} {asn body : Code} : (Instr.enterLoop fn tmps params asn body none).run P w =
    .ok (w.heap.size + 1, [{ target := .collected w.heap.size, args := #[] }]) ((w.alloc (.deferred (some []))).alloc (.loop { state := .ready, pending := none, fn, tmps, params, assign := asn, body, defers := w.heap.size })) := by
  simp [Instr.enterLoop]

theorem getLoop_run {l : Nat} {L : Go.Loop} (h : w.heap[l]? = some (.loop L)) : (Instr.getLoop l).run P w = .ok L w := by
  simp [Instr.getLoop, getObj, Sem.run, h]
theorem setLoop_run {l : Nat} {L : Go.Loop} {ob : Obj} (h : w.heap[l]? = some (.loop L)) : (setObj l ob).run P w = .ok () { w with heap := w.heap.setIfInBounds l ob } := by
  simp [setObj, Sem.run, h]

theorem enter_run2 {fn : FuncId} {params : Array Tmp} {asn body : Code} {c : Nat} {L : Go.Loop} (h : w.heap[c]? = some (.loop L)) : (Instr.enterLoop fn tmps params asn body (some c)).run P w =
    .ok (w.heap.size, []) (w.alloc (.loop { state := .ready, pending := none, fn, tmps, params, assign := asn, body, defers := L.defers })) := by
  simp [Instr.enterLoop, getLoop_run h]

theorem stepR_rangeFunc {f : Operand} {params : Array Tmp} {asn body : Code} {l : Nat} {mark : List Deferred} {w1 w2 : World} {r : Next} {m0 : Machine}
    (he : (Instr.enterLoop b.fn tmps params asn body b.roundOf).run P w = .ok (l, mark) w1) (hr : (invk (evalT tmps f) #[.func (.yield l) #[] #[]]).run P w1 = .ok r w2)
    (hm : startOf P r w2 (b.atR ⟨tmps, mark ++ ds⟩ (.inRangeFunc l :: k)) cs = some m0) :
    step P (lone (b.atR ⟨tmps, ds⟩ (.code (.rangeFunc f params asn body) :: k)) cs w) = .next m0 := by
  have hev : ∀ todo dd, (b.atR ⟨tmps, dd⟩ todo).eval = evalT tmps := fun todo dd => by rw [Frame.eval_atR, evalT_eq]
  have hfr : ({ b.atR ⟨tmps, ds⟩ (.code (.rangeFunc f params asn body) :: k) with todo := .inRangeFunc l :: k, defers := mark ++ (b.atR ⟨tmps, ds⟩ (.code (.rangeFunc f params asn body) :: k)).defers } : Frame) = b.atR ⟨tmps, mark ++ ds⟩ (.inRangeFunc l :: k) := rfl
  have hres : (do let d ← resolve (b.atR ⟨tmps, mark ++ ds⟩ (.inRangeFunc l :: k)).eval { callee := .value f, args := #[.const (.func (.yield l) #[] #[])], argTypes := #[] } 0; invoke d.target d.args : Sem Next) = invk (evalT tmps f) #[.func (.yield l) #[] #[]] := by
    have hmap : (#[Operand.const (.func (.yield l) #[] #[])] : Array Operand).map (evalT tmps) = #[.func (.yield l) #[] #[]] := by simp [evalT]
    rw [hev]; simp only [resolve, hmap]; rfl
  unfold startOf at hm
  split at hm
  · cases hm
    refine step_lone_go ?_
    simp only [stepG, stepG.exec, Frame.atR, Sem.runT_eq] at he hr hres hfr ⊢
    simp [he, hres, hr, stepG.apply]
  · cases hm
    refine step_lone_go ?_
    simp only [stepG, stepG.exec, Frame.atR, Sem.runT_eq] at he hr hres hfr ⊢
    simp [he, hres, hr, stepG.apply]
  · cases hm

theorem stepR_endRangeFunc {l : Nat} {jump : Option Code} {w' : World} (hr : (Instr.endLoop l).run P w = .ok jump w') :
    step P (lone (b.atR ⟨tmps, ds⟩ (.endRangeFunc l :: k)) cs w) = .next (lone (b.atR ⟨tmps, ds⟩ ((jump.map Item.code).toList ++ k)) cs w') := by
  refine step_lone_go ?_
  simp [stepG, stepG.exec, Frame.atR, Sem.runT_eq, hr]
end
end Av
end

section
/- Bodies. -/
namespace Av
open Go

section
variable {P : Program} {p : AProg} {N : Nat} {B D : List Nat} {S0 : Gh} {H0 : H} {w0 : World} {S : Gh} {H : H} {Pv : Nat → Option Nat} {e : Env} {tmps : Array Value} {w : World} {v : AV}
variable {b : Frame} {ds : List Deferred} {k : List Item} {cs : List Frame}

theorem noCf_of {ops : Array Oper} : ∀ {os : List Oper} {gs : List GIns}, chkGs P N B ops os gs = true → gs.all noCf = true
  | [], [], _ => rfl
  | o :: os, g :: gs, h => by
    simp only [chkGs, Bool.and_eq_true] at h
    have h1 := noCf_of h.2
    have h2 : noCf g = true := by
      have := h.1
      simp only [chkG, Bool.and_eq_true] at this
      have hi := this.2
      unfold noCf
      split
      · rename_i hh; rw [hh] at hi; cases hi
      · rfl
    simp [h1, h2]
  | [], _ :: _, h => by simp [chkGs] at h
  | _ :: _, [], h => by simp [chkGs] at h

theorem snap_okv (e : Env) (k : Nat) : (snap e k).okv = true := by
  unfold snap
  split
  · rfl
  · split
    · assumption
    · rfl

theorem snap_ok (hf : FR N B S Pv e tmps w) {k : Nat} {u : Value} (hu : tmps[k]? = some u) : VR S (snap e k) u := by
  have hk : k < N := by rw [← hf.size]; exact (Array.getElem?_eq_some_iff.1 hu).1
  have hg : tmps.getD k undef = u := by rw [Array.getD_eq_getD_getElem?, hu]; rfl
  unfold snap
  split
  · rename_i g cs he
    have := (hf.fb k g cs hk he).1
    rw [hg] at this; exact this
  · split
    · rename_i ho
      have := hf.val k hk ho
      rw [hg] at this; exact this
    · exact .junk _

/-- the deferred calls' block -/
theorem FS.allocD (h : FS (chkR P) p.glob N B D S0 H0 w0 S H Pv e tmps w) : FS (chkR P) p.glob N B (w.heap.size :: D) S0 H0 w0 S H Pv e tmps (w.alloc (.deferred (some []))) := by
  have hk : Keep S H w S H (w.alloc (.deferred (some []))) := .alloc _ trivial
  have hp := h.pv.keep hk
  have hn : w.heap.size ∉ D := fun hd => by have := (Array.getElem?_eq_some_iff.1 (h.pv.df _ hd).1).1; omega
  refine ⟨h.wr.alloc _, h.fr.keep h.pv hk, ⟨hp.lt, hp.own, hp.G, hp.inj, hp.M, fun d hd => ?_, List.nodup_cons.2 ⟨hn, hp.nd⟩, fun k c hc hm => ?_⟩, h.kp.trans hk, h.nw, fun d hd => ?_⟩
  · rcases List.mem_cons.1 hd with rfl | hd
    · exact ⟨heap_alloc_at w _, fun ho => Nat.lt_irrefl _ (h.wr.own_lt ho)⟩
    · exact hp.df d hd
  · rcases List.mem_cons.1 hm with rfl | hm
    · have := h.pv.lt k _ hc; omega
    · exact hp.PD k c hc hm
  · rcases List.mem_cons.1 hd with rfl | hd
    · exact h.kp.sz
    · exact h.nd d hd

/-- all loops at a fuel, from the mark behind a round -/
def RunsL (P : Program) (p : AProg) (n : Nat) : Prop :=
  ∀ a e h o e' h', exec p n (.loop a) e h = some (o, e', h') → ∀ A N B D S0 H0 w0 S Pv tmps w b k cs, chkC P N B A a = true → RO b w0 →
    FS (chkR P) p.glob N B D S0 H0 w0 S h Pv e tmps w → RunOK P (chkR P) p.glob N B S0 H0 w0 (lone (b.atR ⟨tmps, dsOf D⟩ (.inLoop A :: k)) cs w) b D k cs o e' h'

theorem loop_core {n : Nat} (hR : Runs P p n) (hL : RunsL P p n) {a : ACode} {e e' : Env} {h h' : Av.H} {o : Out} (hx : exec p (n + 1) (.loop a) e h = some (o, e', h')) {A : Code} (hc : chkC P N B A a = true) (hrf : RO b w0)
    (hF : FS (chkR P) p.glob N B D S0 H0 w0 S h Pv e tmps w) : RunOK P (chkR P) p.glob N B S0 H0 w0 (lone (b.atR ⟨tmps, dsOf D⟩ (.code A :: .inLoop A :: k)) cs w) b D k cs o e' h' := by
  rw [exec] at hx
  cases hxa : exec p n a e h with
  | none => rw [hxa] at hx; cases hx
  | some q =>
    obtain ⟨oa, e1, h1⟩ := q
    rw [hxa] at hx
    obtain ⟨S1, Pv1, t1, w1, D1, r1, f1, d1⟩ := hR _ _ _ _ _ _ hxa A N B D S0 H0 w0 S Pv tmps w b (.inLoop A :: k) cs hc hrf hF
    cases oa with
    | normal =>
      simp only at hx
      obtain ⟨S2, Pv2, t2, w2, D2, r2, f2, d2⟩ := hL _ _ _ _ _ _ hx A N B D1 S0 H0 w0 S1 Pv1 t1 w1 b k cs hc hrf f1
      exact ⟨S2, Pv2, t2, w2, D2, r2.of_steps r1, f2, fun hh => by rw [d2 hh, d1 hh]⟩
    | exit i =>
      obtain ⟨k1, hk1, hs1⟩ := r1
      cases hx
      exact ⟨S1, Pv1, t1, w1, D1, ⟨k1, by rw [hk1]; rfl, hs1⟩, f1, d1⟩
    | ret =>
      cases hx
      obtain ⟨k1, hs1⟩ := r1
      exact ⟨S1, Pv1, t1, w1, D1, ⟨k1, hs1⟩, f1, d1⟩

theorem stepR_scope {c : Code} : step P (lone (b.atR ⟨tmps, ds⟩ (.code (.scope c) :: k)) cs w) = .next (lone (b.atR ⟨tmps, ds⟩ (.code c :: .inScope c :: k)) cs w) :=
  step_lone_go (by simp [stepG, stepG.exec, Frame.atR])
theorem stepR_inScope {c : Code} : step P (lone (b.atR ⟨tmps, ds⟩ (.inScope c :: k)) cs w) = .next (lone (b.atR ⟨tmps, ds⟩ k) cs w) :=
  step_lone_go (by simp [stepG, stepG.exec, Frame.atR])

theorem exec_ok {n : Nat} (hmix : P.follows .mixedOrders = true) (hgl : ∀ g, cleans (p.glob g) = true) (hG : Good P (chkR P) p n) (hR : Runs P p n) (hL : RunsL P p n) : Runs P p (n + 1) := by
  intro c e h o e' h' hx C N B D S0 H0 w0 S Pv tmps w b k cs hc hrf hF
  cases c with
  | skip =>
    rw [exec] at hx; cases hx
    cases C <;> simp only [chkC] at hc <;> first | (cases hc; done) | skip
    · exact ⟨S, Pv, tmps, w, D, .one stepR_skip, hF, fun _ => rfl⟩
    · exact ⟨S, Pv, tmps, w, D, .one stepR_label, hF, fun _ => rfl⟩
  | ret =>
    rw [exec] at hx; cases hx
    cases C <;> simp only [chkC] at hc <;> first | (cases hc; done) | skip
    exact ⟨S, Pv, tmps, w, D, ⟨k, .refl P _⟩, hF, fun _ => rfl⟩
  | exit i =>
    rw [exec] at hx; cases hx
    cases C <;> simp only [chkC] at hc <;> first | (cases hc; done) | skip
    rename_i j
    have : j = i := by simpa using hc
    subst this
    exact ⟨S, Pv, tmps, w, D, ⟨k, rfl, .refl P _⟩, hF, fun _ => rfl⟩
  | reg gs =>
    rw [exec] at hx
    split at hx
    · rename_i e1 h1 hops
      cases hx
      cases C <;> simp only [chkC] at hc <;> first | (cases hc; done) | skip
      rename_i id ops draw
      simp only [Bool.and_eq_true] at hc
      cases n with
      | zero => rw [opsx] at hops; cases hops
      | succ m =>
        have hL := opsL_mono p (Nat.le_succ m) (opsx_opsL p m gs e h _ (noCf_of hc.1) hops)
        obtain ⟨S2, Pv2, t2, w2, st, f2⟩ := region_ok (b := b) (ds := dsOf D) (k := k) (cs := cs) (id := id) hmix hG hgl hc.1 hc.2 hF hL
        exact ⟨S2, Pv2, t2, w2, D, st, f2, fun _ => rfl⟩
    · cases hx
  | seq a c2 =>
    cases C <;> simp only [chkC] at hc <;> first | (cases hc; done) | skip
    rename_i A C2
    simp only [Bool.and_eq_true] at hc
    rw [exec] at hx
    cases hxa : exec p n a e h with
    | none => rw [hxa] at hx; cases hx
    | some q =>
      obtain ⟨oa, e1, h1⟩ := q
      rw [hxa] at hx
      obtain ⟨S1, Pv1, t1, w1, D1, r1, f1, d1⟩ := hR _ _ _ _ _ _ hxa A N B D S0 H0 w0 S Pv tmps w b (.code C2 :: k) cs hc.1 hrf hF
      cases oa with
      | normal =>
        simp only at hx
        obtain ⟨S2, Pv2, t2, w2, D2, r2, f2, d2⟩ := hR _ _ _ _ _ _ hx C2 N B D1 S0 H0 w0 S1 Pv1 t1 w1 b k cs hc.2 hrf f1
        exact ⟨S2, Pv2, t2, w2, D2, r2.of_steps (.head stepR_seq r1), f2, fun hh => by rw [d2 hh, d1 hh]⟩
      | exit i =>
        cases hx
        obtain ⟨k1, hk1, hs1⟩ := r1
        exact ⟨S1, Pv1, t1, w1, D1, ⟨k1, by rw [hk1]; rfl, .head stepR_seq hs1⟩, f1, d1⟩
      | ret =>
        cases hx
        obtain ⟨k1, hs1⟩ := r1
        exact ⟨S1, Pv1, t1, w1, D1, ⟨k1, .head stepR_seq hs1⟩, f1, d1⟩
  | cond x a c2 =>
    cases C <;> simp only [chkC] at hc <;> first | (cases hc; done) | skip
    rename_i X A C2
    simp only [Bool.and_eq_true] at hc
    rw [exec] at hx
    split at hx
    · rename_i hv
      have hb := (ev_ok hF.wr hF.fr hc.1.1 hv).bool_inv
      obtain ⟨S1, Pv1, t1, w1, D1, r1, f1, d1⟩ := hR _ _ _ _ _ _ hx A N B D S0 H0 w0 S Pv tmps w b k cs hc.1.2 hrf hF
      exact ⟨S1, Pv1, t1, w1, D1, r1.of_steps (.one (by have := stepR_cond (P := P) (b := b) (a := ⟨tmps, dsOf D⟩) (k := k) (cs := cs) (w := w) (c := X) (x := A) (y := C2) (t := true) (by rw [evalT_eq]; exact hb); simpa using this)), f1, d1⟩
    · rename_i hv
      have hb := (ev_ok hF.wr hF.fr hc.1.1 hv).bool_inv
      obtain ⟨S1, Pv1, t1, w1, D1, r1, f1, d1⟩ := hR _ _ _ _ _ _ hx C2 N B D S0 H0 w0 S Pv tmps w b k cs hc.2 hrf hF
      exact ⟨S1, Pv1, t1, w1, D1, r1.of_steps (.one (by have := stepR_cond (P := P) (b := b) (a := ⟨tmps, dsOf D⟩) (k := k) (cs := cs) (w := w) (c := X) (x := A) (y := C2) (t := false) (by rw [evalT_eq]; exact hb); simpa using this)), f1, d1⟩
    · cases hx
  | block i a =>
    cases C <;> simp only [chkC] at hc <;> first | (cases hc; done) | skip
    rename_i j A
    simp only [Bool.and_eq_true, beq_iff_eq] at hc
    obtain ⟨rfl, hc⟩ := hc
    rw [exec] at hx
    cases hxa : exec p n a e h with
    | none => rw [hxa] at hx; cases hx
    | some q =>
      obtain ⟨oa, e1, h1⟩ := q
      rw [hxa] at hx
      obtain ⟨S1, Pv1, t1, w1, D1, r1, f1, d1⟩ := hR _ _ _ _ _ _ hxa A N B D S0 H0 w0 S Pv tmps w b (.inBlock j :: k) cs hc hrf hF
      cases oa with
      | normal =>
        cases hx
        exact ⟨S1, Pv1, t1, w1, D1, .head stepR_block (Steps.trans r1 (.one stepR_inBlock)), f1, d1⟩
      | exit i =>
        obtain ⟨k1, hk1, hs1⟩ := r1
        simp only at hx
        by_cases hij : i = j
        · subst hij
          rw [if_pos rfl] at hx; cases hx
          have hk : exitTo i k1 = some k := by rw [hk1]; simp [exitTo]
          exact ⟨S1, Pv1, t1, w1, D1, .head stepR_block (hs1.trans (.one (stepR_exit hk))), f1, d1⟩
        · rw [if_neg hij] at hx; cases hx
          refine ⟨S1, Pv1, t1, w1, D1, ⟨k1, ?_, .head stepR_block hs1⟩, f1, d1⟩
          rw [hk1]; simp [exitTo, Ne.symm hij]
      | ret =>
        cases hx
        obtain ⟨k1, hs1⟩ := r1
        exact ⟨S1, Pv1, t1, w1, D1, ⟨k1, .head stepR_block hs1⟩, f1, d1⟩
  | loop a =>
    cases C <;> simp only [chkC] at hc <;> first | (cases hc; done) | skip
    rename_i A
    have := loop_core (k := k) (cs := cs) hR hL hx hc hrf hF
    exact this.of_steps (.one stepR_loop)
  | scope a =>
    cases C <;> simp only [chkC] at hc <;> first | (cases hc; done) | skip
    rename_i A
    rw [exec] at hx
    obtain ⟨S1, Pv1, t1, w1, D1, r1, f1, d1⟩ := hR _ _ _ _ _ _ hx A N B D S0 H0 w0 S Pv tmps w b (.inScope A :: k) cs hc hrf hF
    refine ⟨S1, Pv1, t1, w1, D1, ?_, f1, d1⟩
    cases o with
    | normal => exact .head stepR_scope (Steps.trans r1 (.one stepR_inScope))
    | exit i => obtain ⟨k1, hk1, hs1⟩ := r1; exact ⟨k1, by rw [hk1]; rfl, .head stepR_scope hs1⟩
    | ret => obtain ⟨k1, hs1⟩ := r1; exact ⟨k1, .head stepR_scope hs1⟩
  | frz ss a =>
    rw [exec] at hx
    split at hx
    · rename_i e1 he1
      have hcc : (ss.all (fun s => B.contains s && decide (s < N)) && chkC P N B C a) = true := by
        unfold chkC at hc; exact hc
      simp only [Bool.and_eq_true] at hcc
      have hsN : ∀ s ∈ ss, s < N := fun s hs => by
        have := List.all_eq_true.1 hcc.1 s hs
        simp only [Bool.and_eq_true, decide_eq_true_eq] at this; exact this.2
      obtain ⟨S1, Pv1, f1⟩ := frz_ok hsN hF he1
      obtain ⟨S2, Pv2, t2, w2, D2, r2, f2, d2⟩ := hR _ _ _ _ _ _ hx C N B D S0 H0 w0 S1 Pv1 tmps w b k cs hcc.2 hrf f1
      exact ⟨S2, Pv2, t2, w2, D2, r2, f2, d2⟩
    · cases hx
  | frzm s a =>
    rw [exec] at hx
    split at hx
    · rename_i g cs' he1
      have hcc : (B.contains s && decide (s < N) && chkC P N B C a) = true := by
        unfold chkC at hc; exact hc
      simp only [Bool.and_eq_true, decide_eq_true_eq] at hcc
      obtain ⟨S1, f1⟩ := frzm_ok hF hcc.1.2 he1
      obtain ⟨S2, Pv2, t2, w2, D2, r2, f2, d2⟩ := hR _ _ _ _ _ _ hx C N B D S0 H0 w0 S1 Pv tmps w b k cs hcc.2 hrf f1
      exact ⟨S2, Pv2, t2, w2, D2, r2, f2, d2⟩
    · cases hx
  | shr s a =>
    rw [exec] at hx
    split at hx
    · rename_i g cs' he1
      have hcc : (B.contains s && decide (s < N) && chkC P N B C a) = true := by
        unfold chkC at hc; exact hc
      simp only [Bool.and_eq_true, decide_eq_true_eq] at hcc
      obtain ⟨S1, Pv1, f1⟩ := shr_ok hF hcc.1.2 (by simpa using hcc.1.1) he1
      obtain ⟨S2, Pv2, t2, w2, D2, r2, f2, d2⟩ := hR _ _ _ _ _ _ hx C N B D S0 H0 w0 S1 Pv1 tmps w b k cs hcc.2 hrf f1
      exact ⟨S2, Pv2, t2, w2, D2, r2, f2, d2⟩
    · cases hx
  | rangeF f ps asn body =>
    cases C <;> simp only [chkC] at hc <;> first | (cases hc; done) | skip
    rename_i F' params A C2
    simp only [Bool.and_eq_true, beq_iff_eq] at hc
    obtain ⟨⟨⟨⟨hcf, rfl⟩, hps⟩, hca⟩, hcb⟩ := hc
    have hps' : ∀ k ∈ params.toList, k < N ∧ k ∉ B := fun k hk => by
      have := List.all_eq_true.1 hps k hk
      simpa using this
    rw [exec] at hx
    split at hx
    · rename_i fv hfv
      split at hx
      · rename_i v2 h2 hcall
        split at hx
        · rename_i r hr
          by_cases hst : r.state = 1
          · rw [if_pos hst] at hx; cases hx
          rw [if_neg hst] at hx
          obtain ⟨w1, D1, mark, dd, f1, henter, hds, hDD, hle0⟩ : ∃ w1 D1 mark dd, FS (chkR P) p.glob N B D1 S0 H0 w0 S h Pv e tmps w1 ∧
              (Instr.enterLoop b.fn tmps params A C2 b.roundOf).run P w = .ok (w1.heap.size, mark) (w1.alloc (.loop { state := .ready, pending := none, fn := b.fn, tmps := tmps, params := params, assign := A, body := C2, defers := dd })) ∧
              dsOf D1 = mark ++ dsOf D ∧ (b.roundOf ≠ none → D1 = D) ∧ w.heap.size ≤ w1.heap.size := by
            cases hro : b.roundOf with
            | none => exact ⟨_, _, _, _, hF.allocD, by rw [World.size_alloc]; exact enter_run, rfl, fun hh => absurd rfl hh, by simp⟩
            | some c =>
              have hlp := hF.kp.sm.2.2.2 c (hrf c hro)
              obtain ⟨L0, hL0⟩ : ∃ L0, w.heap[c]? = some (.loop L0) := by
                cases hq : w.heap[c]? with
                | none => rw [hq] at hlp; cases hlp
                | some ob => rw [hq] at hlp; cases ob <;> first | (cases hlp; done) | exact ⟨_, rfl⟩
              exact ⟨w, D, [], L0.defers, hF, enter_run2 hL0, rfl, fun _ => rfl, Nat.le_refl _⟩
          let L : Go.Loop := { state := .ready, pending := none, fn := b.fn, tmps := tmps, params := params, assign := A, body := C2, defers := dd }
          obtain ⟨f2, hρ, hle⟩ := f1.new (ao := .loop ⟨snap e, params.toList, asn, body, 0, none⟩) (ob := .loop L) (a := none) (by simp) trivial (by
            refine ⟨L, heap_alloc_at _ _, rfl, Nat.zero_le _, rfl, ⟨B, ?_, ?_, fun k hk => (hps' k hk).2⟩, fun k hk => ?_, fun k u hu => ?_, fun k => snap_okv e k, rfl⟩
            · simp only [L, chkR, hF.fr.size, hca]
            · simp only [L, chkR, hF.fr.size, hcb]
            · simp only [L, hF.fr.size]; exact (hps' k hk).1
            · exact (snap_ok f1.fr hu).mono (Gh.le_bind (f1.wr.fresh _ (Nat.le_refl _)).1 (f1.wr.fresh _ (Nat.le_refl _)).2.2.1))
          have hFv := (ev_ok f1.wr f1.fr hcf hfv).mono hle
          obtain ⟨rr, w2, hinv, hrest⟩ := hG _ _ _ _ _ hcall _ _ (evalT tmps F') #[.func (.yield w1.heap.size) #[] #[]] f2.wr hFv (.cons (.yld _ _ hρ) .nil)
          obtain ⟨m0, hm0, u, w', S', hsteps, hWR, hV, hK⟩ := hrest (b.atR ⟨tmps, dsOf D1⟩ (.inRangeFunc w1.heap.size :: k)) cs
          have f3 : FS (chkR P) p.glob N B D1 S0 H0 w0 S' h2 Pv e tmps w' := ⟨hWR, f2.fr.keep f2.pv hK, f2.pv.keep hK, f2.kp.trans hK, f2.nw, f2.nd⟩
          have hρ' := hK.le.ρ _ _ hρ
          obtain ⟨_, ao, hg, hOR⟩ := hWR.dom _ _ hρ'
          rw [hr] at hg; cases hg
          obtain ⟨L2, hheap, hLR⟩ := hOR
          have hlt : w1.heap.size < w'.heap.size := (Array.getElem?_eq_some_iff.1 hheap).1
          have hnb : (L2.state == LoopState.busy) = false := by
            rw [hLR.state]
            have := hLR.le
            rcases r with ⟨_, _, _, _, st, _⟩
            simp only at hst this ⊢
            match st, hst, this with
            | 0, _, _ => rfl
            | 2, _, _ => rfl
            | 3, _, _ => rfl
          have hend : (Instr.endLoop w1.heap.size).run P w' = .ok L2.pending { w' with heap := w'.heap.setIfInBounds w1.heap.size (.loop { L2 with state := .exhausted }) } := by
            unfold Instr.endLoop
            simp only [Sem.run_bind, getLoop_run hheap, Result.andThen_ok, hnb, Bool.false_eq_true, if_false, setLoop_run hheap]
            rfl
          have f4 := f3.putH (ao' := .loop { r with state := 3 }) hρ' hr rfl (by simp) (w' := { w' with heap := w'.heap.setIfInBounds w1.heap.size (.loop { L2 with state := .exhausted }) }) (by simp) (fun c' hc' => by simp [Array.getElem?_setIfInBounds_ne (Ne.symm hc')]) (.obj w' hheap trivial trivial)
            ⟨{ L2 with state := .exhausted }, by simp [hlt], ⟨rfl, by simp, hLR.params, hLR.chk, hLR.ps, hLR.env, hLR.okv, hLR.pend⟩⟩
          have hmain : Steps P (lone (b.atR ⟨tmps, dsOf D⟩ (.code (.rangeFunc F' params A C2) :: k)) cs w) (lone (b.atR ⟨tmps, dsOf D1⟩ ((L2.pending.map Item.code).toList ++ k)) cs { w' with heap := w'.heap.setIfInBounds w1.heap.size (.loop { L2 with state := .exhausted }) }) := by
            refine .head (stepR_rangeFunc (l := w1.heap.size) (mark := mark) henter hinv (by rw [← hds]; exact hm0)) (Steps.trans hsteps (.one ?_))
            exact stepR_endRangeFunc hend
          have hpend := hLR.pend
          cases hp : r.pending with
          | none =>
            rw [hp] at hx hpend f4
            simp only at hx hpend
            cases hx
            rw [hpend] at hmain f4
            exact ⟨S', Pv, tmps, _, _, hmain, f4, hDD⟩
          | some c =>
            rw [hp] at hx hpend f4
            simp only at hx hpend
            obtain ⟨o1, ho1, hL2, hnn⟩ := hpend
            rw [ho1] at hx
            cases hx
            rw [hL2] at hmain f4
            cases o with
            | normal => exact absurd rfl hnn
            | exit i => exact ⟨S', Pv, tmps, _, _, ⟨k, rfl, hmain⟩, f4, hDD⟩
            | ret => exact ⟨S', Pv, tmps, _, _, ⟨k, hmain⟩, f4, hDD⟩
        · cases hx
      · cases hx
    · cases hx

theorem loops_ok {n : Nat} (hR : Runs P p n) (hL : RunsL P p n) : RunsL P p (n + 1) := by
  intro a e h o e' h' hx A N B D S0 H0 w0 S Pv tmps w b k cs hc hrf hF
  exact (loop_core hR hL hx hc hrf hF).of_steps (.one stepR_inLoop)
end
end Av
end

section
/- Calls. -/
namespace Av
open Go

def ProgOK (P : Program) (p : AProg) : Prop :=
  ∀ f F, p.fn f = some F → ∃ fn c, P.funcs[f % 1000]? = some fn ∧ fn.body = some c ∧ (fn.name == "runtime.NumGoroutine") = false ∧ chkF P fn F = true

section
variable {P : Program} {p : AProg} {N : Nat} {B D : List Nat} {S0 : Gh} {H0 : H} {w0 : World} {S : Gh} {H : H} {Pv : Nat → Option Nat} {e : Env} {tmps : Array Value} {w : World} {v : AV}
variable {b : Frame} {ds : List Deferred} {k : List Item} {cs : List Frame}

theorem FS.take {d : Nat} (h : FS (chkR P) p.glob N B (d :: D) S0 H0 w0 S H Pv e tmps w) : (Instr.takeDeferred d).run P w = .ok [] (w.putObj d (.deferred none)) ∧ FS (chkR P) p.glob N B D S0 H0 w0 S H Pv e tmps (w.putObj d (.deferred none)) := by
  obtain ⟨hd, hno⟩ := h.pv.df d (by simp)
  refine ⟨run_takeDeferred hd, ?_⟩
  have hsz : (w.putObj d (.deferred none)).heap.size = w.heap.size := by simp [World.putObj]
  have hoth : ∀ c, c ≠ d → (w.putObj d (.deferred none)).heap[c]? = w.heap[c]? := fun c hc => by simp [World.putObj, Array.getElem?_setIfInBounds_ne (Ne.symm hc)]
  have hnd := List.nodup_cons.1 h.pv.nd
  have hG : ∀ o, S.G d o = none := fun o => by
    cases hq : S.G d o with
    | none => rfl
    | some v => have := h.wr.G d o v hq; simp [World.cell?, hd] at this
  have hM : S.M d = none := by
    cases hq : S.M d with
    | none => rfl
    | some m => obtain ⟨_, h1⟩ := h.wr.M d m hq; rw [hd] at h1; cases h1
  have hWR : WR (chkR P) p.glob S H (w.putObj d (.deferred none)) := h.wr.frame (by omega) fun c _ hor => hoth c fun hcd => by
    subst hcd
    rcases hor with ho | ⟨o, ho⟩ | hm
    · exact hno ho
    · exact ho (hG o)
    · exact hm hM
  refine ⟨hWR, h.fr.mono (.refl _) fun k c hk => hoth c fun hh => h.pv.PD k c hk (by simp [hh]), ⟨fun k c hk => by rw [hsz]; exact h.pv.lt k c hk, h.pv.own, h.pv.G, h.pv.inj, h.pv.M, fun d' hd' => ?_, hnd.2, fun k c hk hc => h.pv.PD k c hk (by simp [hc])⟩, ?_, h.nw, fun d' hd' => h.nd d' (by simp [hd'])⟩
  · obtain ⟨q1, q2⟩ := h.pv.df d' (by simp [hd'])
    exact ⟨by rw [hoth d' fun hh => hnd.1 (hh ▸ hd')]; exact q1, q2⟩
  · refine ⟨h.kp.le, by rw [hsz]; exact h.kp.sz, fun c hc ho => ?_, h.kp.own, h.kp.G, h.kp.M, h.kp.sm.trans (.obj w hd trivial trivial)⟩
    rw [hoth c fun hh => by have := h.nd d (by simp); omega]
    exact h.kp.old c hc ho

theorem unwind_ok : ∀ (D : List Nat) (w : World) (fr : Frame), FS (chkR P) p.glob N B D S0 H0 w0 S H Pv e tmps w → fr.mode = .returning → fr.defers = dsOf D →
    ∃ w', Steps P (lone fr cs w) (lone { fr with defers := [] } cs w') ∧ FS (chkR P) p.glob N B [] S0 H0 w0 S H Pv e tmps w'
  | [], w, fr, h, _, hd => ⟨w, by have : ({ fr with defers := [] } : Frame) = fr := by cases fr; simp_all [dsOf]
                                  rw [this]; exact .refl P _, h⟩
  | d :: D, w, fr, h, hm, hd => by
    obtain ⟨hr, h'⟩ := h.take
    have hs := step_collected (P := P) (fr := fr) (cs := cs) (w := w) (d := { target := .collected d, args := #[] }) (ds := dsOf D) (by rw [hm]; simp) hd rfl hr
    obtain ⟨w', hst, hF⟩ := unwind_ok D _ { fr with defers := [] ++ dsOf D } h' hm rfl
    exact ⟨w', .head hs hst, hF⟩

theorem results_ok {fn : Func} {F : AFn} (hw : WR (chkR P) p.glob S H w) (hf : FR N B S Pv e tmps w) (hc : chkRes P N B fn.results.toList F.res = true) (hr : Av.results p F e H = some v) :
    ∃ u, (Go.results fn tmps).run P w = .ok u w ∧ VR S v u := by
  unfold Av.results at hr
  cases hq : rdRess p e H F.res with
  | none => rw [hq] at hr; cases hr
  | some vs =>
    obtain ⟨us, hus, hV⟩ := res_ok hw hf hc hq
    have hmap : (fn.results.mapM (rdVar tmps)).run P w = .ok us.toArray w := by
      have e1 : fn.results = fn.results.toList.toArray := by simp
      rw [e1, List.mapM_toArray, Sem.run_map, hus]; rfl
    have e0 : Go.results fn tmps = (do let vs ← fn.results.mapM (rdVar tmps); pure (if h : vs.size = 1 then vs[0] else .tuple vs)) := by
      unfold Go.results
      have : (fun (x : ResultVar) => (match x with | .tmp t => pure (tmps.getD t undef) | .cell a t => do loadVar t (← asAddr (tmps.getD a undef)) : Sem Value)) = rdVar tmps := by
        funext x; cases x <;> rfl
      first
        | rfl
        | (rw [← this]; rfl)
    rw [e0, Sem.run_bind, hmap]
    rw [hq] at hr
    simp only [Result.andThen_ok, Sem.run_pure]
    refine ⟨_, rfl, ?_⟩
    split at hr
    · rename_i v1 heq
      cases heq
      cases hr
      have hl := hV.1
      cases us with
      | nil => simp at hl
      | cons u us => cases us with
        | nil => simp; exact hV.head
        | cons => simp at hl
    · rename_i vs1 hne heq
      cases heq
      cases hr
      have hl := hV.1
      have h1 : us.length ≠ 1 := fun h1 => by
        rw [hl] at h1
        obtain ⟨x, hx⟩ := List.length_eq_one_iff.1 h1
        exact hne x (by rw [hx])
      rw [dif_neg (by simpa using h1)]
      exact VR.tup' hV
    · cases hr

theorem init_frame {fn : Func} {F : AFn} (hw : WR (chkR P) p.glob S H w) (hc : chkF P fn F = true) {as : Array Value} {vs : List AV} (hV : VRs S vs as.toList) (hn : vs.length = F.nargs) :
    FS (chkR P) p.glob fn.ntmps (boxes F.body) [] S H w S H (fun _ => none) (init vs) (as ++ Array.replicate (fn.ntmps - as.size) undef) w := by
  simp only [chkF, Bool.and_eq_true, decide_eq_true_eq, beq_iff_eq] at hc
  obtain ⟨⟨⟨⟨h1, h2⟩, h3⟩, h4⟩, h5⟩ := hc
  have hsz : as.size = F.nargs := by have := hV.1; simp at this; omega
  have hval : ∀ k, k < fn.ntmps → VR S (init vs k) ((as ++ Array.replicate (fn.ntmps - as.size) undef).getD k undef) := by
    intro k hk
    by_cases hka : k < as.size
    · have := hV.2 k (by omega)
      have e1 : (as ++ Array.replicate (fn.ntmps - as.size) undef).getD k undef = as.toList.getD k undef := by
        simp [List.getD_eq_getElem?_getD, Array.getElem?_append_left hka]
      have e2 : init vs k = vs.getD k .junk := by
        unfold init; simp [List.getD_eq_getElem?_getD, show k < vs.length by omega]
      rw [e1, e2]; exact this
    · have e1 : (as ++ Array.replicate (fn.ntmps - as.size) undef).getD k undef = undef := by
        simp only [Array.getD_eq_getD_getElem?]
        rw [Array.getElem?_append_right (by omega)]
        by_cases hq : k - as.size < fn.ntmps - as.size
        · simp [hq]
        · simp [hq]
      have e2 : init vs k = .tup [] := by
        unfold init; simp [List.getD_eq_getElem?_getD, show vs.length ≤ k by omega]
      rw [e1, e2]; exact .tup [] #[] rfl (by simp)
  have hok : ∀ k, (init vs k).okv = true := by
    intro k
    by_cases hka : k < vs.length
    · have := hV.2 k hka
      have e2 : init vs k = vs.getD k .junk := by
        unfold init; simp [List.getD_eq_getElem?_getD, hka]
      rw [e2]; exact this.okv
    · have e2 : init vs k = .tup [] := by
        unfold init; simp [List.getD_eq_getElem?_getD, show vs.length ≤ k by omega]
      rw [e2]; rfl
  have hnb : ∀ k v, init vs k = v → v.okv = true := fun k v h => h ▸ hok k
  refine ⟨hw, ⟨by simp; omega, fun k hk _ => hval k hk, fun k g cs hk he => ?_, fun k g cs hk he => ?_, fun k s g off hk he => ?_, fun k _ => ⟨fun g cs he => ?_, fun g cs he => ?_⟩⟩,
    ⟨fun k c hc => (by cases hc), fun k c hc => (by cases hc), fun k c o hc => (by cases hc), fun k k' c hc => (by cases hc), fun k c hc => (by cases hc), fun d hd => (by cases hd), List.nodup_nil, fun k c hc => (by cases hc)⟩, .refl, fun k c hc => (by cases hc), fun d hd => (by cases hd)⟩
  all_goals (have := hnb _ _ he; cases this)

theorem fn_core {n : Nat} (hP : ProgOK P p) (hR : Runs P p n) {f : Nat} {first cap args : List AV} {h h' : Av.H} {v : AV} (hx : callx p (n + 1) (.fn f first cap) args h = some (v, h')) {fv : Value} {as : Array Value}
    (hw : WR (chkR P) p.glob S h w) (hF : VR S (.fn f first cap) fv) (hA : VRs S args as.toList) : ∃ vs ws, fv = .func (.func (f % 1000)) vs ws ∧ (∃ fn c, P.funcs[f % 1000]? = some fn ∧ fn.body = some c ∧ (fn.name == "runtime.NumGoroutine") = false) ∧
      ∀ csx, ∃ fr u w' S', Steps P (lone (Frame.enter P (f % 1000) (vs ++ as ++ ws) .normal) csx w) (lone fr csx w') ∧ fr.fn = f % 1000 ∧ fr.leaving P w' (.returned u) ∧ WR (chkR P) p.glob S' h' w' ∧ VR S' v u ∧ Keep S h w S' h' w' := by
  rw [callx] at hx
  split at hx
  · rename_i F hFn
    split at hx
    · rename_i hlen
      obtain ⟨fn, c, hfn, hbody, hname, hchk⟩ := hP f F hFn
      obtain ⟨vs, ws, rfl, hvs, hws⟩ : ∃ vs ws, fv = .func (.func (f % 1000)) vs ws ∧ VRs S first vs.toList ∧ VRs S cap ws.toList := by
        cases hF with
        | fn _ _ _ vs ws q1 q2 q3 q4 =>
          exact ⟨vs, ws, rfl, ⟨by simpa using q1, fun i hi => by have := q3 i hi; simpa [List.getD_eq_getElem?_getD, Array.getD_eq_getD_getElem?] using this⟩,
            ⟨by simpa using q2, fun i hi => by have := q4 i hi; simpa [List.getD_eq_getElem?_getD, Array.getD_eq_getD_getElem?] using this⟩⟩
      have hall : VRs S (first ++ args ++ cap) (vs ++ as ++ ws).toList := by
        have := (hvs.append hA).append hws; simpa using this
      have hFS := init_frame hw hchk hall hlen
      refine ⟨vs, ws, rfl, ⟨fn, c, hfn, hbody, hname⟩, fun csx => ?_⟩
      have hck : chkC P fn.ntmps (boxes F.body) c F.body = true := by
        simp only [chkF, hbody, Bool.and_eq_true] at hchk; exact hchk.1.1.1.1
      have hcres : chkRes P fn.ntmps (boxes F.body) fn.results.toList F.res = true := by
        simp only [chkF, Bool.and_eq_true] at hchk; exact hchk.2
      let b : Frame := { (default : Frame) with fn := f % 1000, kind := .normal }
      have henter : Frame.enter P (f % 1000) (vs ++ as ++ ws) .normal = b.atR ⟨(vs ++ as ++ ws) ++ Array.replicate (fn.ntmps - (vs ++ as ++ ws).size) undef, dsOf []⟩ [.code c] := by
        simp [Frame.enter, Frame.atR, hfn, hbody, b, dsOf]
        rfl
      have fin : ∀ (e' : Env) (o : Out), exec p n F.body (init (first ++ args ++ cap)) h = some (o, e', h') → (o = .normal ∨ o = .ret) → Av.results p F e' h' = some v →
          ∃ fr u w' S', Steps P (lone (Frame.enter P (f % 1000) (vs ++ as ++ ws) .normal) csx w) (lone fr csx w') ∧ fr.fn = f % 1000 ∧ fr.leaving P w' (.returned u) ∧ WR (chkR P) p.glob S' h' w' ∧ VR S' v u ∧ Keep S h w S' h' w' := by
        intro e' o hex ho hres
        obtain ⟨S', Pv', t', w', D', hre, hFS', _⟩ := hR _ _ _ _ _ _ hex c fn.ntmps (boxes F.body) [] S h w S _ _ w b [] csx hck (fun c hc => by cases hc) hFS
        rw [← henter] at hre
        obtain ⟨todo, hret⟩ : ∃ todo, Steps P (lone (Frame.enter P (f % 1000) (vs ++ as ++ ws) .normal) csx w) (lone { b.atR ⟨t', dsOf D'⟩ todo with mode := .returning } csx w') := by
          rcases ho with rfl | rfl
          · exact ⟨[], Steps.trans hre (.one (stepR_end rfl))⟩
          · obtain ⟨k1, hk1⟩ := hre
            exact ⟨_, hk1.trans (.one (stepR_ret rfl))⟩
        obtain ⟨w2, hun, hFS2⟩ := unwind_ok (cs := csx) D' w' { b.atR ⟨t', dsOf D'⟩ todo with mode := .returning } hFS' rfl rfl
        obtain ⟨u, hu, hV⟩ := results_ok hFS2.wr hFS2.fr hcres hres
        exact ⟨_, u, w2, S', hret.trans hun, rfl, ⟨rfl, rfl, rfl, fn, hfn, hu⟩, hFS2.wr, hV, hFS2.kp⟩
      split at hx
      · rename_i e' h1 hex
        cases hres : Av.results p F e' h1 with
        | none => rw [hres] at hx; cases hx
        | some v1 => rw [hres] at hx; cases hx; exact fin e' .normal hex (.inl rfl) hres
      · rename_i e' h1 hex
        cases hres : Av.results p F e' h1 with
        | none => rw [hres] at hx; cases hx
        | some v1 => rw [hres] at hx; cases hx; exact fin e' .ret hex (.inr rfl) hres
      · cases hx
    · cases hx
  · cases hx

theorem fn_ok {n : Nat} (hP : ProgOK P p) (hR : Runs P p n) {f : Nat} {first cap args : List AV} {h h' : Av.H} {v : AV} (hx : callx p (n + 1) (.fn f first cap) args h = some (v, h')) {fv : Value} {as : Array Value}
    (hw : WR (chkR P) p.glob S h w) (hF : VR S (.fn f first cap) fv) (hA : VRs S args as.toList) : CallOK P (chkR P) p.glob fv as S h w v h' := by
  obtain ⟨vs, ws, rfl, ⟨fn, c, hfn, hbody, hname⟩, hcore⟩ := fn_core hP hR hx hw hF hA
  have hinv : (invk (.func (.func (f % 1000)) vs ws) as).run P w = .ok (.enter (f % 1000) (vs ++ as ++ ws)) w := by
    simp [invk, Deferred.ofValue, invoke, callFunc, hfn, hname, hbody]
    intro hh; simp [hh] at hname
  refine ⟨_, w, hinv, fun c0 cs => ⟨_, rfl, ?_⟩⟩
  obtain ⟨fr, u, w', S', h1, _, h3, h4, h5, h6⟩ := hcore (c0 :: cs)
  exact ⟨u, w', S', h1.trans (.one (step_leave_returned h3)), h4, h5, h6⟩
end
end Av
end

section
/- Rounds, and the whole. -/
namespace Av
open Go

section
variable {P : Program} {p : AProg} {N : Nat} {B D : List Nat} {S0 : Gh} {H0 : H} {w0 : World} {S : Gh} {H : H} {Pv : Nat → Option Nat} {e : Env} {tmps : Array Value} {w : World} {v : AV}

theorem setAll_ok : ∀ (ps : List Nat) (args : List AV) (as : List Value) (e : Env) (tmps : Array Value), (∀ k ∈ ps, k < N ∧ k ∉ B) → VRs S args as → args.length = ps.length → FR N B S Pv e tmps w →
    FR N B S Pv (setAll e ps args) ((ps.zip as).foldl (fun t q => t.setIfInBounds q.1 q.2) tmps) w
  | [], args, as, e, tmps, _, _, hl, hf => by
    have : args = [] := List.length_eq_zero_iff.1 hl
    subst this; exact hf
  | k :: ps, args, as, e, tmps, hp, hV, hl, hf => by
    cases args with
    | nil => simp at hl
    | cons a args => cases as with
      | nil => have := hV.1; simp at this
      | cons u as =>
        simp only [setAll, List.zip_cons_cons, List.foldl_cons]
        exact setAll_ok ps args as _ _ (fun k' hk' => hp k' (by simp [hk'])) hV.tail (by simpa using hl) (hf.set (hp k (by simp)).1 (hp k (by simp)).2 hV.head.okv hV.head)

theorem round_frame {r : Loop} {L : Go.Loop} (hw : WR (chkR P) p.glob S H w) (hL : LoopR (chkR P) S r L) {B : List Nat} (hB : ∀ k ∈ r.ps, k ∉ B) {args : List AV} {as : Array Value} (hA : VRs S args as.toList) (hl : args.length = r.ps.length) :
    FS (chkR P) p.glob L.tmps.size B [] S H w S H (fun _ => none) (setAll r.env r.ps args) ((L.params.zip as).foldl (fun t (q : Tmp × Value) => match q with | (t', a) => t.setIfInBounds t' a) L.tmps) w := by
  have hbase : FR L.tmps.size B S (fun _ => none) r.env L.tmps w := by
    refine ⟨rfl, fun k hk _ => ?_, fun k g cs hk he => ?_, fun k g cs hk he => ?_, fun k s g off hk he => ?_, fun k _ => ⟨fun g cs he => ?_, fun g cs he => ?_⟩⟩
    · refine hL.env k _ ?_; simp [hk]
    all_goals (have := hL.okv k; rw [he] at this; cases this)
  have hset := setAll_ok r.ps args as.toList r.env L.tmps (fun k hk => ⟨hL.ps k hk, hB k hk⟩) hA hl hbase
  have hfold : (L.params.zip as).foldl (fun t (q : Tmp × Value) => match q with | (t', a) => t.setIfInBounds t' a) L.tmps = (r.ps.zip as.toList).foldl (fun t q => t.setIfInBounds q.1 q.2) L.tmps := by
    rw [← Array.foldl_toList, Array.toList_zip, hL.params]
  rw [hfold]
  exact ⟨hw, hset, ⟨fun k c hc => (by cases hc), fun k c hc => (by cases hc), fun k c o hc => (by cases hc), fun k k' c hc => (by cases hc), fun k c hc => (by cases hc), fun d hd => (by cases hd), List.nodup_nil, fun k c hc => (by cases hc)⟩, .refl, fun k c hc => (by cases hc), fun d hd => (by cases hd)⟩

theorem yld_ok {n : Nat} (hR : Runs P p n) {l : Nat} {args : List AV} {h h' : Av.H} {v : AV} (hx : callx p (n + 1) (.yld l) args h = some (v, h')) {fv : Value} {as : Array Value}
    (hw : WR (chkR P) p.glob S h w) (hF : VR S (.yld l) fv) (hA : VRs S args as.toList) : CallOK P (chkR P) p.glob fv as S h w v h' := by
  obtain ⟨c, hρ, rfl⟩ : ∃ c, S.ρ l = some c ∧ fv = .func (.yield c) #[] #[] := by cases hF with | yld _ c hh => exact ⟨c, hh, rfl⟩
  rw [callx] at hx
  split at hx
  · rename_i r hr
    split at hx
    · rename_i hcond
      obtain ⟨hlen, hst⟩ := hcond
      obtain ⟨_, ao, hg, hOR⟩ := hw.dom l c hρ
      rw [hr] at hg; cases hg
      obtain ⟨L, hheap, hL⟩ := hOR
      obtain ⟨B, hca, hcb, hB⟩ := hL.chk
      simp only [chkR] at hca hcb
      have hpsz : L.params.size = r.ps.length := by rw [← hL.params]; simp
      have hasz : as.size = args.length := by have := hA.1; simpa using this
      let tm := (L.params.zip as).foldl (fun t (q : Tmp × Value) => match q with | (t', a) => t.setIfInBounds t' a) L.tmps
      have hinv : (invk (.func (.yield c) #[] #[]) as).run P w = .ok (.round c L.fn tm L.assign L.body) w := by
        simp only [invk, Deferred.ofValue, invoke, Instr.yield, Sem.run_bind, Sem.run_pure, Result.andThen_ok, getLoop_run hheap]
        have e0 : (#[] : Array Value) ++ as = as := by simp
        rw [e0, if_neg (by omega)]
        rfl
      refine ⟨_, w, hinv, fun c0 cs => ⟨_, rfl, ?_⟩⟩
      have hF0 := round_frame hw hL hB hA hlen
      let b : Frame := { (default : Frame) with fn := L.fn, kind := .normal, roundOf := some c }
      have hround : Frame.round c L.fn tm L.assign L.body .normal = b.atR ⟨tm, dsOf []⟩ [.code L.assign, .beginRound, .code L.body] := by
        simp [Frame.round, Frame.atR, b, dsOf]
      have hro : RO b w := fun c' hc' => by cases hc'; rw [hheap]; rfl
      split at hx
      · rename_i e1 h1 hex
        obtain ⟨S1, Pv1, t1, w1, D1, r1, f1, d1⟩ := hR _ _ _ _ _ _ hex L.assign L.tmps.size B [] S h w S _ _ w b [.beginRound, .code L.body] (c0 :: cs) hca hro hF0
        have hD1 : D1 = [] := d1 (by simp [b])
        subst hD1
        split at hx
        · rename_i r1' hr1
          split at hx
          · rename_i hst1
            have hρ1 := f1.kp.le.ρ _ _ hρ
            obtain ⟨_, ao, hg1, hOR1⟩ := f1.wr.dom l c hρ1
            rw [hr1] at hg1; cases hg1
            obtain ⟨L1, hheap1, hL1⟩ := hOR1
            have hlt1 : c < w1.heap.size := (Array.getElem?_eq_some_iff.1 hheap1).1
            have hbeg : (Instr.beginRound c).run P w1 = .ok () { w1 with heap := w1.heap.setIfInBounds c (.loop { L1 with state := .busy }) } := by
              have hs1 : L1.state = .ready := by
                rw [hL1.state, hst1]; rfl
              unfold Instr.beginRound
              simp only [Sem.run_bind, getLoop_run hheap1, Result.andThen_ok, setLoop_run hheap1, hs1]
              rfl
            have f2 := f1.putH (ao' := .loop { r1' with state := 1 }) hρ1 hr1 rfl (by simp) (w' := { w1 with heap := w1.heap.setIfInBounds c (.loop { L1 with state := .busy }) }) (by simp) (fun c' hc' => by simp [Array.getElem?_setIfInBounds_ne (Ne.symm hc')]) (.obj w1 hheap1 trivial trivial)
              ⟨{ L1 with state := .busy }, by simp [hlt1], ⟨rfl, by simp, hL1.params, hL1.chk, hL1.ps, hL1.env, hL1.okv, hL1.pend⟩⟩
            split at hx
            · rename_i o e2 h2 hex2
              obtain ⟨S3, Pv3, t3, w3, D3, r3, f3, d3⟩ := hR _ _ _ _ _ _ hex2 L.body L.tmps.size B [] S h w S1 _ _ _ b [] (c0 :: cs) hcb hro f2
              have hD3 : D3 = [] := d3 (by simp [b])
              subst hD3
              have hpre : Steps P (lone (Frame.round c L.fn tm L.assign L.body .normal) (c0 :: cs) w) (lone (b.atR ⟨t1, dsOf []⟩ (.code L.body :: [])) (c0 :: cs) { w1 with heap := w1.heap.setIfInBounds c (.loop { L1 with state := .busy }) }) := by
                rw [hround]
                exact Steps.trans r1 (.one (stepR_beginRound rfl hbeg))
              split at hx
              · rename_i r2 hr2
                have hρ3 := f3.kp.le.ρ _ _ hρ
                obtain ⟨_, ao, hg3, hOR3⟩ := f3.wr.dom l c hρ3
                rw [hr2] at hg3; cases hg3
                obtain ⟨L3, hheap3, hL3⟩ := hOR3
                have hlt3 : c < w3.heap.size := (Array.getElem?_eq_some_iff.1 hheap3).1
                have hend : ∀ jump : Option Code, (Instr.endRound c jump).run P w3 = .ok (.bool jump.isNone) { w3 with heap := w3.heap.setIfInBounds c (.loop { L3 with state := if jump.isNone then .ready else .done, pending := jump }) } := by
                  intro jump
                  unfold Instr.endRound
                  simp only [Sem.run_bind, getLoop_run hheap3, Result.andThen_ok, setLoop_run hheap3]
                  rfl
                have fin : ∀ (jump : Option Code) (r' : Loop) (u : Value), r' = { r2 with state := r'.state, pending := r'.pending } → (r'.state ≤ 3) →
                    ((if jump.isNone then LoopState.ready else .done) = (match r'.state with | 0 => .ready | 1 => .busy | 2 => .done | _ => .exhausted)) →
                    (match r'.pending with | none => jump = none | some c => ∃ o, Av.pend c = some o ∧ jump = some (match o with | .exit i => .exit i | _ => .ret) ∧ o ≠ .normal) →
                    VR S3 v (.bool jump.isNone) → Steps P (lone (b.atR ⟨t1, dsOf []⟩ (.code L.body :: [])) (c0 :: cs) { w1 with heap := w1.heap.setIfInBounds c (.loop { L1 with state := .busy }) }) (lone (c0.finish (.bool jump.isNone)) cs { w3 with heap := w3.heap.setIfInBounds c (.loop { L3 with state := if jump.isNone then .ready else .done, pending := jump }) }) →
                    h' = h2.put l (.loop r') →
                    ∃ u w' S', Steps P (lone (Frame.round c L.fn tm L.assign L.body .normal) (c0 :: cs) w) (lone (c0.finish u) cs w') ∧ WR (chkR P) p.glob S' h' w' ∧ VR S' v u ∧ Keep S h w S' h' w' := by
                  intro jump r' _ hr' hle' hstate hpend hV hsteps hh'
                  have f4 := f3.putH (ao' := .loop r') hρ3 hr2 rfl (by simp) (w' := { w3 with heap := w3.heap.setIfInBounds c (.loop { L3 with state := if jump.isNone then .ready else .done, pending := jump }) }) (by simp) (fun c' hc' => by simp [Array.getElem?_setIfInBounds_ne (Ne.symm hc')]) (.obj w3 hheap3 trivial trivial)
                    ⟨{ L3 with state := if jump.isNone then .ready else .done, pending := jump }, by simp [hlt3], by
                      rw [hr']
                      exact ⟨hstate, hle', hL3.params, hL3.chk, hL3.ps, hL3.env, hL3.okv, hpend⟩⟩
                  rw [hh']
                  exact ⟨_, _, S3, hpre.trans hsteps, f4.wr, hV, f4.kp⟩
                cases o with
                | normal =>
                  simp only at hx
                  cases hx
                  exact fin none { r2 with state := 0, pending := none } (.bool true) rfl (by simp) rfl rfl (.bool true) (Steps.trans r3 (.one (stepR_round_end rfl rfl (hend none)))) rfl
                | ret =>
                  simp only at hx
                  cases hx
                  obtain ⟨k1, hs3⟩ := r3
                  exact fin (some .ret) { r2 with state := 2, pending := some .ret } (.bool false) rfl (by simp) rfl ⟨.ret, rfl, rfl, by simp⟩ (.bool false) (hs3.trans (.one (stepR_round_ret rfl rfl (hend (some .ret))))) rfl
                | exit i =>
                  simp only at hx
                  cases hx
                  obtain ⟨k1, hk1, hs3⟩ := r3
                  exact fin (some (.exit i)) { r2 with state := 2, pending := some (.exit i) } (.bool false) rfl (by simp) rfl ⟨.exit i, rfl, rfl, by simp⟩ (.bool false) (hs3.trans (.one (stepR_round_exit rfl rfl (by rw [hk1]; rfl) (hend (some (.exit i)))))) rfl
              · cases hx
            · cases hx
          · cases hx
        · cases hx
      · cases hx
    · cases hx
  · cases hx

theorem all_ok (hmix : P.follows .mixedOrders = true) (hgl : ∀ g, cleans (p.glob g) = true) (hP : ProgOK P p) : ∀ n, Good P (chkR P) p n ∧ Runs P p n ∧ RunsL P p n := by
  intro n
  induction n with
  | zero =>
    refine ⟨fun f vs h v h' hx => ?_, fun c e h o e' h' hx => ?_, fun a e h o e' h' hx => ?_⟩
    · rw [callx] at hx; cases hx
    · rw [exec] at hx; cases hx
    · rw [exec] at hx; cases hx
  | succ n ih =>
    obtain ⟨hG, hR, hL⟩ := ih
    refine ⟨fun f vs h v h' hx S w fv args hw hF hA => ?_, exec_ok hmix hgl hG hR hL, loops_ok hR hL⟩
    cases f with
    | fn f first cap => exact fn_ok hP hR hx hw hF hA
    | yld l => exact yld_ok hR hx hw hF hA
    | _ => rw [callx] at hx <;> first | (cases hx; done) | (intros; simp_all)

/-- The whole: what the interpreter gives, the machine gives. -/
theorem sound (hmix : P.follows .mixedOrders = true) (hgl : ∀ g, cleans (p.glob g) = true) (hP : ProgOK P p) {f : Nat} {vs : List AV} {h h' : Av.H} {v : AV} (hx : dcall p (.fn f [] []) vs h = some (v, h'))
    {as : Array Value} (hw : WR (chkR P) p.glob S h w) (hA : VRs S vs as.toList) : Calls P (f % 1000) as w fun q w' => ∃ u S', q = .returned u ∧ VR S' v u ∧ WR (chkR P) p.glob S' h' w' ∧ Keep S h w S' h' w' := by
  obtain ⟨n, hn⟩ := (dcall_iff ..).1 hx
  cases n with
  | zero => rw [callx] at hn; cases hn
  | succ n =>
    obtain ⟨vs', ws, hE, _, hcore⟩ := fn_core hP (all_ok hmix hgl hP n).2.1 hn (fv := .func (.func (f % 1000)) #[] #[]) hw (.fn _ _ _ _ _ rfl rfl (by simp) (by simp)) hA
    cases hE
    intro cs
    obtain ⟨fr, u, w', S', h1, h2, h3, h4, h5, h6⟩ := hcore cs
    have e1 : (#[] : Array Value) ++ as ++ #[] = as := by simp
    rw [e1] at h1
    exact ⟨.returned u, w', fr, ⟨u, S', rfl, h5, h4, h6⟩, h1, h2, h3⟩
end
end Av
end

section
/- A whole program's check; the world that a run begins in. -/
namespace Av
open Go

def okAt (P : Program) (t : List (Option AFn)) : Bool := decide (t.length ≤ 1000) && (List.range t.length).all fun k => match t[k]? with
  | some (some F) => (match P.funcs[k]? with
    | some fn => fn.body.isSome && !(fn.name == "runtime.NumGoroutine") && chkF P fn F
    | none => false)
  | _ => true

theorem progOK_of {P : Program} {p : AProg} {t : List (Option AFn)} (hp : ∀ f, p.fn f = match t[f]? with | some x => x | none => none) (h : okAt P t = true) : ProgOK P p := by
  intro f F hF
  rw [hp f] at hF
  simp only [okAt, Bool.and_eq_true, decide_eq_true_eq] at h
  split at hF
  · rename_i x hx
    subst hF
    have hlt : f < t.length := (List.getElem?_eq_some_iff.1 hx).1
    have h1 := List.all_eq_true.1 h.2 f (List.mem_range.2 hlt)
    rw [hx] at h1
    simp only at h1
    rw [Nat.mod_eq_of_lt (by omega)]
    split at h1
    · rename_i fn hfn
      simp only [Bool.and_eq_true, Bool.not_eq_true'] at h1
      obtain ⟨c, hc⟩ := Option.isSome_iff_exists.1 h1.1.1
      exact ⟨fn, c, hfn, hc, h1.1.2, h1.2⟩
    · cases h1
  · cases hF

/-- further texts of functions, by numbers that are those of the functions, but for thousands -/
def okAt2 (P : Program) (t : List (Nat × AFn)) : Bool := t.all fun q => match P.funcs[q.1 % 1000]? with
  | some fn => fn.body.isSome && !(fn.name == "runtime.NumGoroutine") && chkF P fn q.2
  | none => false
theorem lookup_mem {β : Type} {k : Nat} {F : β} : ∀ {t : List (Nat × β)}, t.lookup k = some F → (k, F) ∈ t
  | [], h => by simp at h
  | (j, G) :: t, h => by
    rw [List.lookup_cons] at h
    split at h
    · rename_i hq
      cases h
      have : k = j := by simpa using hq
      subst this; simp
    · exact List.mem_cons_of_mem _ (lookup_mem h)
theorem progOK_of2 {P : Program} {p : AProg} {t : List (Option AFn)} {t2 : List (Nat × AFn)} (hp : ∀ f, p.fn f = match t[f]? with | some x => x | none => t2.lookup f) (h : okAt P t = true) (h2 : okAt2 P t2 = true) : ProgOK P p := by
  intro f F hF
  rw [hp f] at hF
  split at hF
  · rename_i x hx
    subst hF
    exact progOK_of (p := ⟨fun f => match t[f]? with | some x => x | none => none, p.glob⟩) (fun _ => rfl) h f F (by simp only [hx])
  · have h1 := List.all_eq_true.1 h2 _ (lookup_mem hF)
    simp only at h1
    split at h1
    · rename_i fn hfn
      simp only [Bool.and_eq_true, Bool.not_eq_true'] at h1
      obtain ⟨c, hc⟩ := Option.isSome_iff_exists.1 h1.1.1
      exact ⟨fn, c, hfn, hc, h1.1.2, h1.2⟩
    · cases h1

/-- all that lies there stays -/
def Gh.start (w : World) : Gh := ⟨fun _ => none, fun c o => w.cell? ⟨c, o, none⟩, fun _ => none, fun _ => none, fun _ => none⟩

theorem WR.start {chk : Nat → List Nat → Code → ACode → Bool} {gl : Nat → List AV} {w : World} (hg : ∀ g i, i < (gl g).length → ∃ v, w.cell? ⟨g, i, none⟩ = some v ∧ VR (Gh.start w) ((gl g).getD i .junk) v) :
    WR chk gl (Gh.start w) Av.H.emp w := by
  have hno : ∀ c, ¬ owned (Gh.start w) Av.H.emp c := by rintro c ⟨b, o, h1, _⟩; cases h1
  exact ⟨fun b c hb => (by cases hb), fun b b' c o o' hb => (by cases hb), fun c o v hv => hv, fun c o v _ => hno c, fun c m hm => (by cases hm), fun c m _ => hno c, fun t ht => (by cases ht), fun t t' i i' ht => (by cases ht), fun b _ => ⟨rfl, rfl, rfl, rfl⟩, hg⟩
end Av
end

section
/- Arguments that are read as data, as the interpreter's values. -/
namespace Av
open Go Go.ChangeShapes Go.WideShapes Go.Deep

/-- a type whose cells are numbers (of Go's int) alone, n of them -/
def IntT (P : Program) (e n : Nat) : Prop := ∀ (H : Type) (enc : TypeId × Value → H) (w : World) (base : Nat) (spare : Nat → Bool) (held : Bool) (fuel : Nat) (cs : List Value) (x : DataW H × List MemPlace),
  DataW.trod enc P w base spare held fuel e cs = some x → cs.length = n ∧ ∀ v ∈ cs, ∃ z, v = .int .i64 z ∧ (Lit.int .i64 z).wf = true

theorem IntT.int {P : Program} {t : Nat} (h : P.underlying t = some (.int .i64)) : IntT P t 1 := by
  intro H enc w base spare held fuel cs x hx
  obtain ⟨n, rfl, _, hw⟩ := DataW.trod_int h hx
  exact ⟨rfl, fun v hv => ⟨n, by simpa using hv, hw⟩⟩

theorem IntT.arr {P : Program} {t e n m : Nat} (h : P.underlying t = some (.array n e)) (he : IntT P e m) (hm : P.cellsOf e = m) (h0 : 0 < m) (ht : P.cellsOf t = n * m) : IntT P t (n * m) := by
  intro H enc w base spare held fuel cs x hx
  obtain ⟨xs, k, _, _, hlen, hxs, hel⟩ := DataW.trod_array h hx
  rw [ht] at hlen
  refine ⟨hlen, fun v hv => ?_⟩
  obtain ⟨j, hj, rfl⟩ := List.mem_iff_getElem.1 hv
  have hi : j / m < n := (Nat.div_lt_iff_lt_mul h0).2 (by omega)
  have h1 := hel (j / m) hi
  rw [List.getElem?_eq_getElem (by omega), hm] at h1
  obtain ⟨h2, h3⟩ := he _ _ _ _ _ _ _ _ _ h1
  refine h3 _ ?_
  have hjm : j = (j / m) * m + j % m := by rw [Nat.mul_comm]; exact (Nat.div_add_mod j m).symm
  have hlt : j % m < m := Nat.mod_lt _ h0
  rw [List.mem_iff_getElem?]
  refine ⟨j % m, ?_⟩
  rw [List.getElem?_take, if_pos hlt, List.getElem?_drop, ← hjm]
  exact List.getElem?_eq_getElem hj

/-- a struct: each cell lies in a field -/
theorem IntT.str {P : Program} {t n : Nat} {fs : Array Field} (h : P.underlying t = some (.struct fs)) (hc : P.cellsOf t = n)
    (hf : ∀ j, j < n → ∃ (i : Nat) (f : Field) (m : Nat), fs[i]? = some f ∧ IntT P f.type m ∧ P.cellsOf f.type = m ∧ f.offset ≤ j ∧ j < f.offset + m) : IntT P t n := by
  intro H enc w base spare held fuel cs x hx
  obtain ⟨xs, k, _, _, hlen, hxs, hel⟩ := DataW.trod_struct h hx
  rw [hc] at hlen
  refine ⟨hlen, fun v hv => ?_⟩
  obtain ⟨j, hj, rfl⟩ := List.mem_iff_getElem.1 hv
  obtain ⟨i, f, m, h1, h2, h3, h4, h5⟩ := hf j (by omega)
  have h6 := hel i f h1
  have hil : i < xs.length := by rw [hxs]; exact (Array.getElem?_eq_some_iff.1 h1).1
  rw [List.getElem?_eq_getElem hil, h3] at h6
  refine (h2 _ _ _ _ _ _ _ _ _ h6).2 _ ?_
  rw [List.mem_iff_getElem?]
  refine ⟨j - f.offset, ?_⟩
  rw [List.getElem?_take, if_pos (by omega), List.getElem?_drop, show f.offset + (j - f.offset) = j by omega]
  exact List.getElem?_eq_getElem hj

/-- numbers as the interpreter has them -/
def ints (zs : List Int) : List AV := zs.map fun z => .int .i64 z
theorem ints_of {S : Gh} {cs : List Value} (h : ∀ v ∈ cs, ∃ z, v = .int .i64 z ∧ (Lit.int .i64 z).wf = true) : ∃ zs : List Int, zs.length = cs.length ∧ cs = zs.map (fun z => .int .i64 z) ∧ VRs S (ints zs) cs ∧ ∀ z ∈ zs, (Lit.int .i64 z).wf = true := by
  induction cs with
  | nil => exact ⟨[], rfl, rfl, .nil, by simp⟩
  | cons v cs ih =>
    obtain ⟨z, rfl, hw⟩ := h v (by simp)
    obtain ⟨zs, h1, h2, h3, h4⟩ := ih fun v hv => h v (by simp [hv])
    refine ⟨z :: zs, by simp [h1], by simp [← h2], .cons (.int _ _) h3, fun y hy => ?_⟩
    rcases List.mem_cons.1 hy with rfl | hy
    · exact hw
    · exact h4 y hy

/-- a slice's elements -/
def elem (n : Nat) (zs : List Int) : AV := if n = 1 then (match ints zs with | c :: _ => c | [] => .junk) else .agg (ints zs)
theorem elem_cells {n : Nat} {zs : List Int} (h : zs.length = n) : (elem n zs).cells = ints zs := by
  unfold elem
  split
  · rename_i h1
    subst h1
    match zs, h with
    | [z], _ => rfl
  · rfl
theorem ints_getD {zs : List Int} {j : Nat} (h : j < zs.length) : (ints zs).getD j .junk = .int .i64 (zs.getD j 0) := by
  simp [ints, List.getD_eq_getElem?_getD, h]
theorem ints_length (zs : List Int) : (ints zs).length = zs.length := by simp [ints]

/-- a slice of such elements, as the interpreter has it -/
theorem sl_read {H : Type} {enc : TypeId × Value → H} {P : Program} {w : World} {base : Nat} {spare : Nat → Bool} {held : Bool} {fuel t e n : Nat} {v : Value} {x : DataW H × List MemPlace}
    (ht : P.underlying t = some (.slice e)) (he : IntT P e n) (hn : P.cellsOf e = n) (h0 : 0 < n) (hsp : ∀ a len cap, v = .slice (some a) len cap → a.spot = none ∧ (cap : Int) ≤ 9223372036854775807) (h : DataW.trod enc P w base spare held fuel t [v] = some x) :
    ∃ rows : List (List Int), (rows.length : Int) ≤ 9223372036854775807 ∧ (∀ r ∈ rows, r.length = n ∧ ∀ z ∈ r, (Lit.int .i64 z).wf = true) ∧ VR (Gh.start w) (.sl (rows.map (elem n)) .shut) v := by
  rcases open_slice ht h with ⟨hcs, _⟩ | ⟨a, len, cap, m, k, D, Pl, hcs, _, hl, _, hm, _, hi⟩
  · cases hcs
    exact ⟨[], by simp, by simp, .slnil _ (by intro t; simp)⟩
  · cases hcs
    have hspot := (hsp a len cap rfl).1
    have hcap := (hsp a len cap rfl).2
    have ha : a = ⟨a.block, a.off, none⟩ := by cases a; simp at hspot; subst hspot; rfl
    have hlm : len ≤ m := by rw [hm]; split <;> omega
    have row : ∀ i, i < len → ∃ zs : List Int, zs.length = n ∧ (∀ z ∈ zs, (Lit.int .i64 z).wf = true) ∧ ∀ j, j < n → w.cell? ⟨a.block, a.off + (i * n + j), none⟩ = some (.int .i64 (zs.getD j 0)) := by
      intro i hil
      obtain ⟨cs', hc, ht'⟩ := hi i (by omega)
      rw [hn] at hc
      obtain ⟨h1, h2⟩ := he _ _ _ _ _ _ _ _ _ ht'
      obtain ⟨zs, h3, h4, _, h5⟩ := ints_of (S := Gh.start w) h2
      obtain ⟨_, _, hat⟩ := World.cells?_some hc
      refine ⟨zs, by omega, h5, fun j hj => ?_⟩
      have hcell := hat j hj
      rw [ha, add_mk, add_mk] at hcell
      rw [← Nat.add_assoc]
      rw [hcell]
      subst h4
      simp [List.getD_eq_getElem?_getD, show j < zs.length by omega]
    let rows := (List.range len).map fun i => if q : i < len then Classical.choose (row i q) else []
    have hrows : ∀ i, (q : i < len) → rows.getD i [] = Classical.choose (row i q) := by
      intro i q
      simp [rows, List.getD_eq_getElem?_getD, q]
    have hlen : rows.length = len := by simp [rows]
    refine ⟨rows, by rw [hlen]; omega, fun r hr => ?_, ?_⟩
    · obtain ⟨i, hi', rfl⟩ := List.mem_map.1 hr
      have q : i < len := by simpa using hi'
      rw [dif_pos q]
      exact ⟨(Classical.choose_spec (row i q)).1, (Classical.choose_spec (row i q)).2.1⟩
    · have hel : ∀ i, i < len → (rows.map (elem n)).getD i .junk = elem n (rows.getD i []) := by
        intro i q
        simp [List.getD_eq_getElem?_getD, show i < rows.length by omega]
      have hr1 : ∀ i, i < len → (rows.getD i []).length = n := fun i q => by rw [hrows i q]; exact (Classical.choose_spec (row i q)).1
      have hcell : ∀ i j, i < len → j < n → w.cell? ⟨a.block, a.off + (i * n + j), none⟩ = some (.int .i64 ((rows.getD i []).getD j 0)) := fun i j q hj => by
        rw [hrows i q]; exact (Classical.choose_spec (row i q)).2.2 j hj
      rw [ha]
      refine .sl _ .shut a.block a.off len cap n (fun i => (w.cell? ⟨a.block, a.off + i, none⟩).getD undef) (by simp [hlen]) (fun e' he' => ?_) (fun i hi' => ?_) (fun i j q hj => ?_) hl
      · obtain ⟨r, hr, rfl⟩ := List.mem_map.1 he'
        obtain ⟨i, hi', rfl⟩ := List.mem_iff_getElem.1 hr
        have := hr1 i (by omega)
        rw [List.getD_eq_getElem?_getD, List.getElem?_eq_getElem hi'] at this
        simp only [Option.getD_some] at this
        rw [elem_cells this, ints_length, this]
      · have hq : i = (i / n) * n + i % n := by rw [Nat.mul_comm]; exact (Nat.div_add_mod i n).symm
        have hdiv : i / n < len := (Nat.div_lt_iff_lt_mul h0).2 hi'
        have := hcell (i / n) (i % n) hdiv (Nat.mod_lt _ h0)
        rw [← hq] at this
        simp only [Gh.start, this, Option.getD_some]
      · skip
        rw [hcell i j q hj, hel i q, elem_cells (hr1 i q), ints_getD (by rw [hr1 i q]; exact hj)]
        exact .int _ _

/-- a struct's field -/
def fieldIs (P : Program) (t i ty off : Nat) : Bool := match (P.fieldsOf t)[i]? with | some f => f.type == ty && f.offset == off | none => false
theorem fieldIs_ok {P : Program} {t i ty off : Nat} (h : fieldIs P t i ty off = true) : ∃ f, (P.fieldsOf t)[i]? = some f ∧ f.type = ty ∧ f.offset = off := by
  unfold fieldIs at h
  split at h
  · rename_i f hf
    simp only [Bool.and_eq_true, beq_iff_eq] at h
    exact ⟨f, hf, h.1, h.2⟩
  · cases h
end Av
end
