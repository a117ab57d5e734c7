/- Operations of the interpreter against the machine, first part: no condition. -/
import Derived.ChangeKeysEq
import Derived.Laws.StructEq
import Derived.Great.BuildSlice
import Derived.Test.YtnlflblfonkapaaGreatDoorAvMA
set_option linter.all false
set_option linter.unusedSectionVars false
set_option linter.unusedVariables false
set_option linter.unusedSimpArgs false
set_option linter.unnecessarySimpa false
section
/- What operands are, and what reading and writing memory gives. -/
namespace Av
open Go

def evalT (tmps : Array Value) : Operand → Value
  | .tmp t => tmps.getD t undef
  | .const v => v
  | .global g => .pointer (some ⟨g, 0, none⟩)
  | .func f => .func (.func f) #[] #[]

theorem VR.cptr_inv {S : Gh} {cs u} (h : VR S (.cptr cs) u) : ∃ (c o : Nat) (us : Nat → Value), u = .pointer (some ⟨c, o, none⟩) ∧ (∀ i, i < cs.length → S.G c (o + i) = some (us i)) ∧ ∀ i, i < cs.length → VR S (cs.getD i .junk) (us i) := by
  cases h with | cptr _ c o us hG hV => exact ⟨c, o, us, rfl, hG, hV⟩
theorem VR.msl_inv {S : Gh} {b off len sz u} (h : VR S (.msl b off len sz) u) : ∃ c cap, u = .slice (some ⟨c, off, none⟩) len cap ∧ S.ρ b = some c ∧ len ≤ cap ∧ (cap = len ∨ ∃ a, S.A b = some a ∧ off + cap * sz ≤ a) := by
  cases h with | msl _ _ _ _ c cap h hc ha => exact ⟨c, cap, rfl, h, hc, ha⟩
theorem VR.sl_inv {S : Gh} {es k u} (h : VR S (.sl es k) u) : (∃ (c o cap sz : Nat) (us : Nat → Value), u = .slice (some ⟨c, o, none⟩) es.length cap ∧ (∀ e ∈ es, e.cells.length = sz) ∧ (∀ i, i < es.length * sz → S.G c (o + i) = some (us i)) ∧
    (∀ i j, i < es.length → j < sz → VR S ((es.getD i .junk).cells.getD j .junk) (us (i * sz + j))) ∧ KOK S k c o es.length cap sz) ∨ (es = [] ∧ u = .slice none 0 0 ∧ ∀ t, k ≠ .opn t) := by
  cases h with
  | sl _ _ c o len cap sz us hl hz hG hV hk => subst hl; exact .inl ⟨c, o, cap, sz, us, rfl, hz, hG, hV, hk⟩
  | slnil _ hk => exact .inr ⟨rfl, rfl, hk⟩
theorem VR.sl_len {S : Gh} {es k u} (h : VR S (.sl es k) u) : ∃ b cap, u = .slice b es.length cap := by
  rcases h.sl_inv with ⟨c, o, cap, sz, us, rfl, _⟩ | ⟨rfl, rfl, _⟩ <;> exact ⟨_, _, rfl⟩
theorem VR.mv_inv {S : Gh} {ks vs u} (h : VR S (.mv ks vs) u) : ∃ (c : Nat) (ents : Array MapEntry), u = .map (some c) ∧ S.M c = some ents ∧ ents.size = ks.length ∧ vs.length = ks.length ∧
    (∀ i, i < ks.length → VR S (ks.getD i .junk) (ents.getD i default).key) ∧ ∀ i, i < ks.length → VR S (vs.getD i .junk) (ents.getD i default).val := by
  cases h with | mv _ _ c ents h h1 h2 hk hv => exact ⟨c, ents, rfl, h, h1, h2, hk, hv⟩
theorem VR.okv {S : Gh} {v u} (h : VR S v u) : v.okv = true := by cases h <;> rfl

theorem cm1_ok {S : Gh} {x v} (h : cm1 x v = true) : VR S x v := by
  unfold cm1 at h
  split at h
  · simp at h; subst h; exact .bool _
  · simp at h; obtain ⟨rfl, rfl⟩ := h; exact .int _ _
  · exact .nilp
  · exact .slnil _ (by intro t; simp)
  · exact .nilm
  · exact .nilf
  · cases h
theorem cms_ok {S : Gh} : ∀ {xs vs}, cms xs vs = true → VRs S xs vs
  | [], [], _ => .nil
  | x :: xs, v :: vs, h => by
    simp [cms] at h
    exact .cons (cm1_ok h.1) (cms_ok h.2)
  | [], _ :: _, h => by simp [cms] at h
  | _ :: _, [], h => by simp [cms] at h
theorem cmatch_ok {S : Gh} {x v} (h : cmatch x v = true) : VR S x v := by
  unfold cmatch at h
  split at h
  · have := VR.agg' (cms_ok (S := S) h); simpa using this
  · have := VR.tup' (cms_ok (S := S) h); simpa using this
  · exact cm1_ok h

section
variable {P : Program} {chk : Nat → List Nat → Code → ACode → Bool} {p : AProg} {S : Gh} {H : H} {w : World}
variable {N : Nat} {B : List Nat} {Pv : Nat → Option Nat} {e : Env} {tmps : Array Value}

theorem chkX_ok (hw : WR chk p.glob S H w) (hf : FR N B S Pv e tmps w) {x : Operand} {o : Opd} (h : chkX N x o = true) (hok : (evr p e o).okv = true) : VR S (evr p e o) (evalT tmps x) := by
  unfold chkX at h
  split at h
  · rename_i n m
    simp at h; obtain ⟨rfl, h⟩ := h
    simp only [evr, evalT] at hok ⊢
    split at hok
    · rename_i g cs he; exact (hf.fb n g cs h he).1
    · exact hf.val n h hok
  · exact cmatch_ok h
  · rename_i g h'
    simp at h; subst h
    simp only [evr, evalT]
    refine .cptr _ _ _ (fun i => (S.G g i).getD undef) (fun i hi => ?_) fun i hi => ?_
    · obtain ⟨v, h1, _⟩ := hw.glob g i hi; simp [h1]
    · obtain ⟨v, h1, h2⟩ := hw.glob g i hi; simpa [h1] using h2
  · rename_i f h'
    simp at h; subst h
    simp only [evr, evalT]
    exact .fn _ _ _ _ _ rfl rfl (by simp) (by simp)
  · cases h

theorem ev_some {o : Opd} {v : AV} (h : ev p e o = some v) : evr p e o = v ∧ v.okv = true := by
  unfold ev at h; split at h
  · rename_i hk; cases h; exact ⟨rfl, hk⟩
  · cases h
theorem ev_ok (hw : WR chk p.glob S H w) (hf : FR N B S Pv e tmps w) {x : Operand} {o : Opd} {v : AV} (h : chkX N x o = true) (hv : ev p e o = some v) : VR S v (evalT tmps x) := by
  obtain ⟨rfl, h2⟩ := ev_some hv
  exact chkX_ok hw hf h h2
theorem evs_ok (hw : WR chk p.glob S H w) (hf : FR N B S Pv e tmps w) : ∀ {xs : List Operand} {os : List Opd} {vs : List AV}, chkXs N xs os = true → evs p e os = some vs → VRs S vs (xs.map (evalT tmps))
  | [], [], vs, _, h => by simp [evs] at h; subst h; exact .nil
  | x :: xs, o :: os, vs, hc, h => by
    simp [chkXs] at hc
    unfold evs at h
    split at h
    · rename_i v vs' h1 h2
      cases h
      exact .cons (ev_ok hw hf hc.1 h1) (evs_ok hw hf hc.2 h2)
    · cases h
  | [], _ :: _, _, hc, _ => by simp [chkXs] at hc
  | _ :: _, [], _, hc, _ => by simp [chkXs] at hc

/-! types -/
theorem sz_run {t n : Nat} (h : szOf P t n = true) (w : World) : (Go.sizeOf t).run P w = .ok n w := by
  unfold szOf at h
  split at h
  · rename_i i hi; simp at h; subst h
    simp [Go.sizeOf, run_typeInfo w hi]
  · cases h
theorem sz_map {t n : Nat} (h : szOf P t n = true) : ∃ i, P.info? t = some i ∧ i.size = n := by
  unfold szOf at h
  split at h
  · rename_i i hi; exact ⟨i, hi, by simpa using h⟩
  · cases h
theorem agg_run {t : Nat} {agg : Bool} (h : aggT P t agg = true) (w : World) : (isAgg t).run P w = .ok agg w := by
  unfold aggT at h
  unfold isAgg
  rw [Sem.run_bind]
  split at h
  · rename_i fs hu; rw [run_underlying hu w]; subst h; rfl
  · rename_i a b hu; rw [run_underlying hu w]; subst h; rfl
  · rename_i d hn1 hn2 hu
    rw [run_underlying hu w]
    simp at h; subst h
    cases d <;> first | rfl | exact absurd rfl (hn1 _) | exact absurd rfl (hn2 _ _)
  · cases h
theorem zero_run {t : Nat} {zs : List AV} (h : zmatch P t zs = true) (w : World) : ∃ z, (zeroValue t).run P w = .ok z w ∧ VRs S zs z.cells.toList ∧ szOf P t zs.length = true := by
  unfold zmatch at h
  split at h
  · rename_i i hi
    simp at h
    obtain ⟨h1, h2⟩ := h
    split at h1
    · rename_i z hz
      refine ⟨z, ?_, cms_ok h1, by simp [szOf, hi, h2]⟩
      simp [zeroValue, run_typeInfo w hi, hz]
    · cases h1
  · cases h

/-! reading -/
def ldV (agg : Bool) (n : Nat) (us : Nat → Value) : Value := if agg then .agg ((List.range n).map us).toArray else us 0

theorem load_run {t n : Nat} {agg : Bool} (h : ldT P t n agg = true) {c o : Nat} {us : Nat → Value} (hc : ∀ i, i < n → w.cell? ⟨c, o + i, none⟩ = some (us i)) :
    (loadVar t ⟨c, o, none⟩).run P w = .ok (ldV agg n us) w := by
  simp only [ldT, Bool.and_eq_true, Bool.or_eq_true] at h
  obtain ⟨⟨h1, h2⟩, h3⟩ := h
  unfold loadVar ldV
  rw [Sem.run_bind, agg_run h2 w]
  cases agg with
  | true =>
    simp only [Result.andThen_ok, if_true, Sem.run_bind, sz_run h1 w]
    rw [run_loadCells w ⟨c, o, none⟩ n us fun j hj => by rw [add_mk]; exact hc j hj]
    rfl
  | false =>
    simp at h3
    have := hc 0 (by omega)
    simp only [Nat.add_zero] at this
    simp [this]

theorem part_VR {cs : List AV} {off n : Nat} {agg : Bool} {v : AV} (hp : part cs off n agg = some v) {us : Nat → Value} (hv : ∀ i, off ≤ i → i < off + n → VR S (cs.getD i .junk) (us (i - off))) (hn : agg = true ∨ n = 1) :
    VR S v (ldV agg n us) ∧ off + n ≤ cs.length := by
  unfold part at hp
  split at hp
  · rename_i hl
    refine ⟨?_, hl⟩
    split at hp
    · rename_i ha; subst ha; cases hp
      unfold ldV; rw [if_pos rfl]
      refine VR.agg' (.of (by simp; omega) fun i x u hx hu => ?_)
      have hi : i < n := by
        have := (List.getElem?_eq_some_iff.1 hu).1; simpa using this
      have := hv (off + i) (by omega) (by omega)
      rw [List.getD_eq_getElem?_getD] at this
      rw [List.getElem?_take, if_pos hi, List.getElem?_drop] at hx
      rw [hx] at this
      simp [hi] at hu
      subst hu
      simpa using this
    · rename_i ha
      have hn1 : n = 1 := hn.resolve_left ha
      subst hn1
      split at hp
      · rename_i v' hv'; cases hp
        have := hv off (Nat.le_refl _) (by omega)
        rw [List.getD_eq_getElem?_getD, hv'] at this
        simp only [ldV, if_neg ha]
        simpa using this
      · cases hp
  · cases hp

/-! writing -/
theorem oneCell_of {S : Gh} {v u} (h : VR S v u) (hf : v.flat = true) : u.oneCell' = true := by
  cases h <;> first | rfl | (cases hf; done)
theorem flats_cells {v : AV} (h : v.flats = true) : ∀ x ∈ v.cells, x.flat = true := fun x hx => by
  unfold AV.flats at h; exact List.all_eq_true.1 h x hx
theorem flat_ne_junk {v : AV} (h : v.flats = true) : v ≠ .junk := by rintro rfl; cases h
theorem oneCells {v : AV} {u : Value} (h : VR S v u) (hf : v.flats = true) : ∀ x ∈ u.cells.toList, x.oneCell' = true := by
  intro x hx
  have hc := h.cells (flat_ne_junk hf)
  obtain ⟨i, hi, rfl⟩ := List.mem_iff_getElem.1 hx
  have hl : i < v.cells.length := by rw [← hc.1]; exact hi
  have := hc.2 i hl
  rw [List.getD_eq_getElem?_getD, List.getD_eq_getElem?_getD, List.getElem?_eq_getElem hl, List.getElem?_eq_getElem hi] at this
  exact oneCell_of this (flats_cells hf _ (List.getElem_mem hl))

theorem VRs.splice {cs new : List AV} {vs ws : List Value} {off : Nat} (h : VRs S cs vs) (h' : VRs S new ws) : VRs S (Av.splice cs off new) (vs.take off ++ ws ++ vs.drop (off + ws.length)) := by
  unfold Av.splice
  rw [h'.1]
  exact ((h.take off).append h').append (h.drop _)

theorem store_run {t n : Nat} (ht : szOf P t n = true) {v : AV} {u : Value} (hv : VR S v u) (hf : v.flats = true) (hn : v.cells.length = n) {c o : Nat} {arr : Array Value} {el : TypeId}
    (hc : w.heap[c]? = some (.cells arr el (0, 0))) (ho : o + n ≤ arr.size) :
    (storeVar t ⟨c, o, none⟩ u).run P w = .ok () (w.setRow c (arr.toList.take o ++ u.cells.toList ++ arr.toList.drop (o + u.cells.toList.length)).toArray) := by
  have hs : u.cells.size = n := by have := (hv.cells (flat_ne_junk hf)).1; simpa [hn] using this
  unfold storeVar
  rw [Sem.run_bind, sz_run ht w]
  simp only [Result.andThen_ok, hs, ne_eq, not_true_eq_false, if_false]
  have := run_storeCells_at (P := P) c o el u.cells.toList 0 arr w hc (by simpa [hs] using ho) (oneCells hv hf)
  simpa using this
end
end Av
end

section
/- The operations that neither read nor write shared memory. -/
namespace Av
open Go

section
variable {P : Program} {chk : Nat → List Nat → Code → ACode → Bool} {p : AProg} {S : Gh} {H : H} {w : World}
variable {N : Nat} {B : List Nat} {Pv : Nat → Option Nat} {e : Env} {tmps : Array Value} {o : Oper} {v : AV} {wr : Option (Nat × AV)}

/-- a result: a value, or an address of a box of the frame's own -/
def PRes (N : Nat) (S : Gh) (e : Env) (tmps : Array Value) (v : AV) (u : Value) : Prop :=
  VR S v u ∨ ∃ s g off, v = .lptr s g off ∧ s < N ∧ ∃ g' cs, (e s = .lbox g' cs ∨ e s = .fbox g' cs) ∧ g ≤ g' ∧
    ∃ c, u = .pointer (some ⟨c, off, none⟩) ∧ (g = g' → tmps.getD s undef = .pointer (some ⟨c, 0, none⟩))

def PG (P : Program) (w : World) (N : Nat) (S : Gh) (e : Env) (tmps : Array Value) (o : Oper) (v : AV) (wr : Option (Nat × AV)) : Prop :=
  wr = none ∧ ∃ u, (execOp (evalT tmps) o).run P w = .ok (.value u) w ∧ PRes N S e tmps v u

variable (hw : WR chk p.glob S H w) (hf : FR N B S Pv e tmps w)
include hw hf

theorem p_mov {x} (hc : chkP P N B o (.mov x) = true) (hs : stepP p e (.mov x) = some (v, wr)) : PG P w N S e tmps o v wr := by
  simp only [chkP] at hc
  simp only [stepP] at hs
  split at hs
  · rename_i v' hv
    cases hs
    refine ⟨rfl, ?_⟩
    split at hc
    · rename_i y ho; exact ⟨_, by simp only [execOp, ho]; rfl, .inl (ev_ok hw hf hc hv)⟩
    · rename_i y ho; exact ⟨_, by simp only [execOp, ho]; rfl, .inl (ev_ok hw hf hc hv)⟩
    · cases hc
  · cases hs

theorem p_pick {c a b} (hc : chkP P N B o (.pick c a b) = true) (hs : stepP p e (.pick c a b) = some (v, wr)) : PG P w N S e tmps o v wr := by
  simp only [chkP] at hc
  split at hc
  · rename_i c' a' b' ho
    simp only [Bool.and_eq_true] at hc
    obtain ⟨⟨h1, h2⟩, h3⟩ := hc
    simp only [stepP] at hs
    split at hs
    · rename_i hcv
      split at hs
      · rename_i v' hv; cases hs
        refine ⟨rfl, _, ?_, .inl (ev_ok hw hf h2 hv)⟩
        simp [execOp, ho, (ev_ok hw hf h1 hcv).bool_inv, asBool]
      · cases hs
    · rename_i hcv
      split at hs
      · rename_i v' hv; cases hs
        refine ⟨rfl, _, ?_, .inl (ev_ok hw hf h3 hv)⟩
        simp [execOp, ho, (ev_ok hw hf h1 hcv).bool_inv, asBool]
      · cases hs
    · cases hs
  · cases hc

theorem p_extract {x i} (hc : chkP P N B o (.extract x i) = true) (hs : stepP p e (.extract x i) = some (v, wr)) : PG P w N S e tmps o v wr := by
  simp only [chkP] at hc
  split at hc
  · rename_i y j ho
    simp at hc
    obtain ⟨rfl, h1⟩ := hc
    simp only [stepP] at hs
    split at hs
    · rename_i vs hv
      split at hs
      · rename_i v' hv'
        cases hs
        obtain ⟨us, hu, hV⟩ := (ev_ok hw hf h1 hv).tup_inv
        obtain ⟨u, h2, h3⟩ := hV.get hv'
        refine ⟨rfl, u, ?_, .inl h3⟩
        simp at h2
        simp [execOp, ho, hu, Instr.extract, h2]
      · cases hs
    · cases hs
  · cases hc

theorem p_len {x} (hc : chkP P N B o (.len x) = true) (hs : stepP p e (.len x) = some (v, wr)) : PG P w N S e tmps o v wr := by
  simp only [chkP] at hc
  split at hc
  · rename_i c ho
    simp only [Bool.and_eq_true] at hc
    obtain ⟨⟨h1, h2⟩, h3⟩ := hc
    split at h1
    · rename_i hcal
      obtain ⟨y, hy, hx⟩ : ∃ y, c.args.toList = [y] ∧ chkX N y x = true := by
        cases hl : c.args.toList with
        | nil => rw [hl] at h2; simp [chkXs] at h2
        | cons y ys => rw [hl] at h2; cases ys <;> simp [chkXs] at h2; exact ⟨y, rfl, h2⟩
      have hy' : c.args = #[y] := by rw [← Array.toArray_toList (xs := c.args), hy]
      split at h3
      · rename_i t ht
        have ht' : c.argTypes = #[t] := by rw [← Array.toArray_toList (xs := c.argTypes), ht]
        split at h3
        · rename_i et hu
          simp only [stepP] at hs
          split at hs
          · rename_i es k hv
            cases hs
            have := ev_ok hw hf hx hv
            refine ⟨rfl, _, ?_, .inl (.int _ _)⟩
            obtain ⟨b', cap, hE⟩ := this.sl_len
            simp [execOp, ho, resolve, hcal, invoke, builtin, Builtin.len_, ht', hy', run_underlying hu, hE, goInt]
          · rename_i b off len sz hv
            cases hs
            have := ev_ok hw hf hx hv
            refine ⟨rfl, _, ?_, .inl (.int _ _)⟩
            obtain ⟨c', cap, hE, _⟩ := this.msl_inv
            simp [execOp, ho, resolve, hcal, invoke, builtin, Builtin.len_, ht', hy', run_underlying hu, hE, goInt]
          · cases hs
        · cases h3
      · cases h3
    · cases h1
  · cases hc

theorem p_nilchk {x} (hc : chkP P N B o (.nilchk x) = true) (hs : stepP p e (.nilchk x) = some (v, wr)) : PG P w N S e tmps o v wr := by
  simp only [chkP] at hc
  split at hc
  · rename_i y ho
    simp only [stepP] at hs
    split at hs
    · rename_i b off hv
      cases hs
      have h := ev_ok hw hf hc hv
      obtain ⟨c, h1, h2⟩ := h.ptr_inv
      exact ⟨rfl, _, by simp only [execOp, ho, h2]; rfl, .inl (h2 ▸ h)⟩
    · rename_i cs hv
      cases hs
      have h := ev_ok hw hf hc hv
      obtain ⟨c, o', us, hE, _⟩ := h.cptr_inv
      exact ⟨rfl, _, by simp only [execOp, ho, hE]; rfl, .inl (hE ▸ h)⟩
    · cases hs
  · cases hc

theorem p_mkfn {f a b} (hc : chkP P N B o (.mkfn f a b) = true) (hs : stepP p e (.mkfn f a b) = some (v, wr)) : PG P w N S e tmps o v wr := by
  simp only [chkP] at hc
  split at hc
  · rename_i g a' b' ho
    simp only [Bool.and_eq_true, beq_iff_eq] at hc
    obtain ⟨⟨rfl, h1⟩, h2⟩ := hc
    simp only [stepP] at hs
    split at hs
    · rename_i va vb hva hvb
      cases hs
      have ha := evs_ok hw hf h1 hva
      have hb := evs_ok hw hf h2 hvb
      refine ⟨rfl, _, by simp only [execOp, ho, Instr.makeFunc]; rfl, .inl (.fn _ _ _ _ _ (by simpa using ha.1) (by simpa using hb.1) (fun i hi => ?_) fun i hi => ?_)⟩
      · have := ha.2 i hi; simpa [List.getD_eq_getElem?_getD, Array.getD_eq_getD_getElem?] using this
      · have := hb.2 i hi; simpa [List.getD_eq_getElem?_getD, Array.getD_eq_getD_getElem?] using this
    · cases hs
  · cases hc

theorem p_un {op x} (hc : chkP P N B o (.un op x) = true) (hs : stepP p e (.un op x) = some (v, wr)) : PG P w N S e tmps o v wr := by
  simp only [chkP] at hc
  split at hc
  · rename_i op' t y ho
    simp only [Bool.and_eq_true, beq_iff_eq] at hc
    obtain ⟨rfl, h1⟩ := hc
    simp only [stepP] at hs
    split at hs
    · rename_i v0 hv
      split at hs
      · rename_i r hr
        cases hs
        have h := ev_ok hw hf h1 hv
        unfold un at hr
        split at hr
        · rename_i k n
          split at hr
          · cases hr
            exact ⟨rfl, _, by simp only [execOp, ho, h.int_inv, Op.unary, Op.intArith]; rfl, .inl (.int _ _)⟩
          · cases hr
        · split at hr
          · cases hr
            exact ⟨rfl, _, by simp only [execOp, ho, h.bool_inv, Op.unary]; rfl, .inl (.bool _)⟩
          · cases hr
        · cases hr
      · cases hs
    · cases hs
  · cases hc
end
end Av
end

section
/- The same, with types. -/
namespace Av
open Go

theorem evalT_tmp (tmps : Array Value) (k : Nat) : evalT tmps (.tmp k) = tmps.getD k undef := rfl

theorem part_len {cs : List AV} {off n : Nat} {agg : Bool} {v : AV} (h : part cs off n agg = some v) : off + n ≤ cs.length := by
  unfold part at h; split at h
  · assumption
  · cases h

theorem fld_ok {P : Program} {st f off t : Nat} (h : fld P st f off = some t) : ∃ fs fl, P.underlying st = some (.struct fs) ∧ fs[f]? = some fl ∧ fl.offset = off ∧ fl.type = t := by
  unfold fld at h
  split at h
  · rename_i fs hu
    split at h
    · rename_i fl hfl
      split at h
      · rename_i ho; cases h; exact ⟨fs, fl, hu, hfl, ho, rfl⟩
      · cases h
    · cases h
  · cases h
theorem arr_ok {P : Program} {t len sz el : Nat} (h : arrT P t len sz = some el) : P.underlying t = some (.array len el) ∧ szOf P el sz = true := by
  unfold arrT at h
  split at h
  · rename_i l e' hu
    split at h
    · rename_i hh; cases h; obtain ⟨rfl, h2⟩ := hh; exact ⟨hu, h2⟩
    · cases h
  · cases h
theorem slT_ok {P : Program} {t sz el : Nat} (h : slT P t sz = some el) : P.underlying t = some (.slice el) ∧ szOf P el sz = true := by
  unfold slT at h
  split at h
  · rename_i e' hu
    split at h
    · rename_i hh; cases h; exact ⟨hu, hh⟩
    · cases h
  · cases h

theorem fieldAt_run {P : Program} {w : World} {st f off t c o : Nat} (h : fld P st f off = some t) (hz : szOf P t 0 = false) (hi : (P.info? t).isSome = true) :
    (Instr.fieldAt st (.pointer (some ⟨c, o, none⟩)) f).run P w = .ok (.pointer (some ⟨c, o + off, none⟩)) w := by
  obtain ⟨fs, fl, hu, hfl, rfl, rfl⟩ := fld_ok h
  obtain ⟨i, hi⟩ := Option.isSome_iff_exists.1 hi
  have hz' : i.size ≠ 0 := by simpa [szOf, hi] using hz
  simp [Instr.fieldAt, run_underlying hu, hfl, Instr.sureAddr, fieldPlace, Go.sizeOf, run_typeInfo w hi, hz', add_mk]

theorem indexAt_arr {P : Program} {w : World} {t len sz el c o : Nat} {k : IntKind} {i : Int} (h : arrT P t len sz = some el) (h0 : 0 ≤ i) (h1 : i < len) :
    (Instr.indexAt t (.pointer (some ⟨c, o, none⟩)) (.int k i)).run P w = .ok (.pointer (some ⟨c, o + i.toNat * sz, none⟩)) w := by
  obtain ⟨hu, hz⟩ := arr_ok h
  simp [Instr.indexAt, asIntOf, run_underlying hu, Instr.sureAddr, h0, h1, sz_run hz, add_mk]
theorem indexAt_sl {P : Program} {w : World} {t len cap sz el c o : Nat} {k : IntKind} {i : Int} (h : slT P t sz = some el) (h0 : 0 ≤ i) (h1 : i < len) :
    (Instr.indexAt t (.slice (some ⟨c, o, none⟩) len cap) (.int k i)).run P w = .ok (.pointer (some ⟨c, o + i.toNat * sz, none⟩)) w := by
  obtain ⟨hu, hz⟩ := slT_ok h
  simp [Instr.indexAt, asIntOf, run_underlying hu, Instr.sureAddr, h0, h1, sz_run hz, add_mk]

section
variable {P : Program} {chk : Nat → List Nat → Code → ACode → Bool} {p : AProg} {S : Gh} {H : H} {w : World}
variable {N : Nat} {B : List Nat} {Pv : Nat → Option Nat} {e : Env} {tmps : Array Value} {o : Oper} {v : AV} {wr : Option (Nat × AV)}

theorem lbox_slot (hf : FR N B S Pv e tmps w) {s g : Nat} {cs : List AV} (hs : s < N) (he : e s = .lbox g cs ∨ e s = .fbox g cs) :
    ∃ c, tmps.getD s undef = .pointer (some ⟨c, 0, none⟩) := by
  rcases he with he | he
  · obtain ⟨c, _, _, _, h, _⟩ := hf.lb s g cs hs he; exact ⟨c, h⟩
  · exact (hf.fb s g cs hs he).2

/-- a cell of a frame's own box -/
theorem lbox_cells (hw : WR chk p.glob S H w) (hf : FR N B S Pv e tmps w) {s g : Nat} {cs : List AV} (hs : s < N) (he : e s = .lbox g cs ∨ e s = .fbox g cs) :
    ∃ c, ∃ us : Nat → Value, tmps.getD s undef = .pointer (some ⟨c, 0, none⟩) ∧ ∀ i, i < cs.length → w.cell? ⟨c, i, none⟩ = some (us i) ∧ VR S (cs.getD i .junk) (us i) := by
  rcases he with he | he
  · obtain ⟨c, arr, t, _, h2, h3, h4⟩ := hf.lb s g cs hs he
    refine ⟨c, fun i => arr.toList.getD i undef, h2, fun i hi => ⟨?_, h4.2 i hi⟩⟩
    rw [cell_of_row w c i arr t _ h3]
    have : i < arr.size := by have := h4.1; simp at this; omega
    simp [this]
  · obtain ⟨hv, c, hc⟩ := hf.fb s g cs hs he
    obtain ⟨c', o', us, hE, hG, hV⟩ := hv.cptr_inv
    rw [hc] at hE; cases hE
    exact ⟨c, us, hc, fun i hi => ⟨by have := hw.G _ _ _ (hG i hi); simpa using this, hV i hi⟩⟩

theorem chkX_eq (hw : WR chk p.glob S H w) (hf : FR N B S Pv e tmps w) {x : Operand} {q : Opd} {v : AV} (h : chkX N x q = true) (hv : evr p e q = v) (hok : v.okv = true) : VR S v (evalT tmps x) := by
  subst hv; exact chkX_ok hw hf h hok
theorem chkX_lptr {x : Operand} {q : Opd} {s g off : Nat} (h1 : chkX N x q = true) (hv : evr p e q = .lptr s g off) : ∃ k, x = .tmp k ∧ k < N ∧ e k = .lptr s g off := by
  unfold chkX at h1
  split at h1
  · rename_i n m; simp at h1; obtain ⟨rfl, h1⟩ := h1
    refine ⟨n, rfl, h1, ?_⟩
    simp only [evr] at hv
    split at hv
    · cases hv
    · exact hv
  · simp only [evr] at hv; subst hv; have := (cmatch_ok (S := ⟨fun _ => none, fun _ _ => none, fun _ => none, fun _ => none, fun _ => none⟩) h1).okv; cases this
  · cases hv
  · cases hv
  · cases h1

variable (hw : WR chk p.glob S H w) (hf : FR N B S Pv e tmps w)
include hw hf

theorem p_faddr {off a} (hc : chkP P N B o (.faddr off a) = true) (hs : stepP p e (.faddr off a) = some (v, wr)) : PG P w N S e tmps o v wr := by
  simp only [chkP] at hc
  split at hc
  · rename_i st y f ho
    simp only [Bool.and_eq_true] at hc
    obtain ⟨h1, h2⟩ := hc
    split at h2
    · rename_i t ht
      simp only [Bool.and_eq_true, Bool.not_eq_true'] at h2
      simp only [stepP] at hs
      split at hs
      · rename_i b o' hv
        cases hs
        obtain ⟨c, h3, h4⟩ := (chkX_eq (p := p) hw hf h1 hv rfl).ptr_inv
        exact ⟨rfl, _, by simp only [execOp, ho, h4, Sem.run_bind, fieldAt_run ht h2.1 h2.2]; rfl, .inl (.ptr _ _ _ h3)⟩
      · rename_i cs hv
        split at hs
        · rename_i hl
          cases hs
          obtain ⟨c, o', us, hE, hG, hV⟩ := (chkX_eq (p := p) hw hf h1 hv rfl).cptr_inv
          refine ⟨rfl, _, by simp only [execOp, ho, hE, Sem.run_bind, fieldAt_run ht h2.1 h2.2]; rfl, .inl (.cptr _ _ _ (fun i => us (off + i)) (fun i hi => ?_) fun i hi => ?_)⟩
          · simp at hi; rw [Nat.add_assoc]; exact hG (off + i) (by omega)
          · simp at hi
            have := hV (off + i) (by omega)
            simpa [List.getD_eq_getElem?_getD] using this
        · cases hs
      · rename_i s g o' hv
        cases hs
        obtain ⟨k, rfl, hk, he⟩ := chkX_lptr h1 hv
        obtain ⟨h3, g', cs, h4, h5, c, h6, h7⟩ := hf.lp k s g o' hk he
        exact ⟨rfl, _, by simp only [execOp, ho, evalT_tmp, h6, Sem.run_bind, fieldAt_run ht h2.1 h2.2]; rfl, .inr ⟨s, g, _, rfl, h3, g', cs, h4, h5, c, rfl, h7⟩⟩
      · cases hs
    · cases h2
  · cases hc
theorem p_iaddr {arr sz x i} (hc : chkP P N B o (.iaddr arr sz x i) = true) (hs : stepP p e (.iaddr arr sz x i) = some (v, wr)) : PG P w N S e tmps o v wr := by
  simp only [chkP] at hc
  split at hc
  · rename_i t y j ho
    simp only [Bool.and_eq_true] at hc
    obtain ⟨⟨h1, h2⟩, h3⟩ := hc
    simp only [stepP] at hs
    split at hs
    · rename_i k n hi
      have hI := (ev_ok hw hf h2 hi).int_inv
      split at hs
      · rename_i len b o' hv
        obtain ⟨el, hel⟩ := Option.isSome_iff_exists.1 h3
        split at hs
        · rename_i hb
          cases hs
          obtain ⟨c, h4, h5⟩ := (chkX_eq (p := p) hw hf h1 hv rfl).ptr_inv
          exact ⟨rfl, _, by simp only [execOp, ho, h5, hI, Sem.run_bind, indexAt_arr hel hb.1 hb.2]; rfl, .inl (.ptr _ _ _ h4)⟩
        · cases hs
      · rename_i len cs hv
        obtain ⟨el, hel⟩ := Option.isSome_iff_exists.1 h3
        split at hs
        · rename_i hb
          cases hs
          obtain ⟨c, o', us, hE, hG, hV⟩ := (chkX_eq (p := p) hw hf h1 hv rfl).cptr_inv
          refine ⟨rfl, _, by simp only [execOp, ho, hE, hI, Sem.run_bind, indexAt_arr hel hb.1 hb.2.1]; rfl, .inl (.cptr _ _ _ (fun q => us (n.toNat * sz + q)) (fun q hq => ?_) fun q hq => ?_)⟩
          · simp at hq; rw [Nat.add_assoc]; exact hG _ (by omega)
          · simp at hq
            have := hV (n.toNat * sz + q) (by omega)
            simpa [List.getD_eq_getElem?_getD] using this
        · cases hs
      · rename_i len s g o' hv
        obtain ⟨el, hel⟩ := Option.isSome_iff_exists.1 h3
        split at hs
        · rename_i hb
          cases hs
          obtain ⟨k, rfl, hk, he⟩ := chkX_lptr h1 hv
          obtain ⟨h3, g', cs, h4, h5, c, h6, h7⟩ := hf.lp k s g o' hk he
          exact ⟨rfl, _, by simp only [execOp, ho, evalT_tmp, h6, hI, Sem.run_bind, indexAt_arr hel hb.1 hb.2]; rfl, .inr ⟨s, g, _, rfl, h3, g', cs, h4, h5, c, rfl, h7⟩⟩
        · cases hs
      · rename_i es k' hv
        obtain ⟨el, hel⟩ := Option.isSome_iff_exists.1 h3
        split at hs
        · rename_i hb
          split at hs
          · rename_i a ha
            split at hs
            · rename_i hsz
              cases hs
              have hlt : n.toNat < es.length := (List.getElem?_eq_some_iff.1 ha).1
              rcases (chkX_eq (p := p) hw hf h1 hv rfl).sl_inv with ⟨c, o', cap, sz', us, hE, hz, hG, hV, _⟩ | ⟨rfl, _⟩
              · have hz' : sz' = sz := by rw [← hz a (List.mem_of_getElem? ha)]; exact hsz
                subst hz'
                refine ⟨rfl, _, by simp only [execOp, ho, hE, hI, Sem.run_bind, indexAt_sl hel hb (show n < (es.length : Int) by omega)]; rfl, .inl (.cptr _ _ _ (fun q => us (n.toNat * sz' + q)) (fun q hq => ?_) fun q hq => ?_)⟩
                · rw [Nat.add_assoc]
                  refine hG _ ?_
                  have : (n.toNat + 1) * sz' ≤ es.length * sz' := Nat.mul_le_mul_right _ hlt
                  rw [Nat.add_mul] at this; omega
                · have := hV n.toNat q hlt (by omega)
                  rw [List.getD_eq_getElem?_getD (l := es), ha] at this
                  exact this
              · simp at ha
            · cases hs
          · cases hs
        · cases hs
      · rename_i b o' len sz' hv
        obtain ⟨el, hel⟩ := Option.isSome_iff_exists.1 h3
        split at hs
        · rename_i hb
          obtain ⟨hb1, hb2, rfl⟩ := hb
          cases hs
          obtain ⟨c, cap, hE, h4, _⟩ := (chkX_eq (p := p) hw hf h1 hv rfl).msl_inv
          exact ⟨rfl, _, by simp only [execOp, ho, hE, hI, Sem.run_bind, indexAt_sl hel hb1 hb2]; rfl, .inl (.ptr _ _ _ h4)⟩
        · cases hs
      · cases hs
    · cases hs
  · cases hc

theorem p_lad {s off} (hc : chkP P N B o (.lad s off) = true) (hs : stepP p e (.lad s off) = some (v, wr)) : PG P w N S e tmps o v wr := by
  simp only [chkP] at hc
  split at hc
  · rename_i st k f ho
    simp only [Bool.and_eq_true, beq_iff_eq, decide_eq_true_eq] at hc
    obtain ⟨⟨⟨rfl, h1⟩, h0⟩, h2⟩ := hc
    split at h2
    · rename_i t ht
      simp only [Bool.and_eq_true, Bool.not_eq_true'] at h2
      simp only [stepP] at hs
      split at hs
      all_goals first
        | (cases hs; done)
        | (rename_i g cs hg
           cases hs
           obtain ⟨c, hc⟩ := lbox_slot hf h1 (g := g) (cs := cs) (by first | exact .inl hg | exact .inr hg)
           exact ⟨rfl, _, by simp only [execOp, ho, evalT_tmp, hc, Sem.run_bind, fieldAt_run ht h2.1 h2.2]; rfl, .inr ⟨k, g, _, rfl, h1, g, cs, (by first | exact .inl hg | exact .inr hg), Nat.le_refl _, c, by simp, fun _ => hc⟩⟩)
    · cases h2
  · cases hc

theorem p_ladi {s len sz i} (hc : chkP P N B o (.ladi s len sz i) = true) (hs : stepP p e (.ladi s len sz i) = some (v, wr)) : PG P w N S e tmps o v wr := by
  simp only [chkP] at hc
  split at hc
  · rename_i t k j ho
    simp only [Bool.and_eq_true, beq_iff_eq, decide_eq_true_eq] at hc
    obtain ⟨⟨⟨⟨rfl, h1⟩, h0⟩, h2⟩, h3⟩ := hc
    obtain ⟨el, hel⟩ := Option.isSome_iff_exists.1 h3
    simp only [stepP] at hs
    split at hs
    all_goals first
      | (cases hs; done)
      | (rename_i g cs kk n hg hi
         have hI := (ev_ok hw hf h2 hi).int_inv
         split at hs
         · rename_i hb
           cases hs
           obtain ⟨c, hc⟩ := lbox_slot hf h1 (g := g) (cs := cs) (by first | exact .inl hg | exact .inr hg)
           exact ⟨rfl, _, by simp only [execOp, ho, evalT_tmp, hc, hI, Sem.run_bind, indexAt_arr hel hb.1 hb.2]; rfl, .inr ⟨k, g, _, rfl, h1, g, cs, (by first | exact .inl hg | exact .inr hg), Nat.le_refl _, c, by simp, fun _ => hc⟩⟩
         · cases hs)
  · cases hc

theorem lofs_ok {s g cs} {a : Option Opd} {k off : Nat} (hsN : s < N) (hk : k < N) (he : e s = .lbox g cs ∨ e s = .fbox g cs)
    (hm : (match a with | none => k == s | some (.t j) => k == j | _ => false) = true) (ho : lofs e s g a = some off) {c : Nat} (hcs : tmps.getD s undef = .pointer (some ⟨c, 0, none⟩)) :
    tmps.getD k undef = .pointer (some ⟨c, off, none⟩) := by
  cases a with
  | none =>
    simp [lofs] at ho; simp at hm; subst ho; subst hm; exact hcs
  | some q =>
    cases q with
    | t j =>
      simp at hm; subst hm
      simp only [lofs] at ho
      split at ho
      · rename_i s' g' off' hj
        split at ho
        · rename_i hh
          obtain ⟨rfl, rfl⟩ := hh
          cases ho
          obtain ⟨_, g1, cs1, h4, h5, c1, h6, h7⟩ := hf.lp k s' g' off hk hj
          have hg : g' = g1 := by
            rcases he with he | he <;> rcases h4 with h4 | h4 <;> rw [he] at h4 <;> cases h4 <;> rfl
          have := h7 hg
          rw [hcs] at this; cases this
          exact h6
        · cases ho
      · cases ho
    | _ => simp at hm

theorem p_loadL {s n agg a} (hc : chkP P N B o (.loadL s n agg a) = true) (hs : stepP p e (.loadL s n agg a) = some (v, wr)) : PG P w N S e tmps o v wr := by
  simp only [chkP] at hc
  split at hc
  · rename_i t k ho
    simp only [Bool.and_eq_true, decide_eq_true_eq] at hc
    obtain ⟨⟨⟨⟨h1, h2⟩, h0⟩, h3⟩, h4⟩ := hc
    have hn : agg = true ∨ n = 1 := by
      simp only [ldT, Bool.and_eq_true, Bool.or_eq_true, beq_iff_eq] at h1; exact h1.2
    simp only [stepP] at hs
    split at hs
    all_goals first
      | (cases hs; done)
      | (rename_i g cs hg
         have he : e s = .lbox g cs ∨ e s = .fbox g cs := by first | exact .inl hg | exact .inr hg
         split at hs
         · rename_i off hoff
           split at hs
           · rename_i v' hv'
             cases hs
             obtain ⟨c, us, hcs, hU⟩ := lbox_cells hw hf h2 he
             have hk := lofs_ok hw hf h2 h3 he h4 hoff hcs
             have hP := part_VR (S := S) hv' (us := fun i => us (off + i)) (fun i h5 h6 => by
               have hlt : off + n ≤ cs.length := by exact part_len hv'
               have := (hU i (by omega)).2
               rw [show off + (i - off) = i by omega]; exact this) hn
             refine ⟨rfl, _, ?_, .inl hP.1⟩
             have hl := load_run (P := P) (w := w) h1 (c := c) (o := off) (us := fun i => us (off + i)) fun i hi => (hU (off + i) (by have := hP.2; omega)).1
             simp only [execOp, ho, evalT_tmp, hk, Sem.run_bind, Instr.loadAt, Instr.sureAddr, Sem.run_pure, Result.andThen_ok, hl]
           · cases hs
         · cases hs)
  · cases hc

theorem p_loadC {n agg a} (hc : chkP P N B o (.loadC n agg a) = true) (hs : stepP p e (.loadC n agg a) = some (v, wr)) : PG P w N S e tmps o v wr := by
  simp only [chkP] at hc
  split at hc
  · rename_i t y ho
    simp only [Bool.and_eq_true] at hc
    obtain ⟨h1, h2⟩ := hc
    have hn : agg = true ∨ n = 1 := by
      simp only [ldT, Bool.and_eq_true, Bool.or_eq_true, beq_iff_eq] at h1; exact h1.2
    simp only [stepP] at hs
    split at hs
    · rename_i cs hv
      split at hs
      · rename_i v' hv'
        cases hs
        obtain ⟨c, o', us, hE, hG, hV⟩ := (ev_ok hw hf h2 hv).cptr_inv
        have hP := part_VR (S := S) hv' (us := us) (fun i h5 h6 => by
          have hlt : 0 + n ≤ cs.length := by exact part_len hv'
          exact hV i (by omega)) hn
        refine ⟨rfl, _, ?_, .inl hP.1⟩
        have hl := load_run (P := P) (w := w) h1 (c := c) (o := o') (us := us) fun i hi => hw.G _ _ _ (hG i (by have := hP.2; omega))
        simp only [execOp, ho, hE, Sem.run_bind, Instr.loadAt, Instr.sureAddr, Sem.run_pure, Result.andThen_ok, hl]
      · cases hs
    · cases hs
  · cases hc
end
end Av
end

section
/- Structs, arrays, slices and numbers. -/
namespace Av
open Go

theorem part_run {P : Program} {w : World} {t n off : Nat} {agg : Bool} (h : ldT P t n agg = true) {us : Array Value} (hn : off + n ≤ us.size) :
    (Go.part t us off).run P w = .ok (ldV agg n fun i => us.getD (off + i) undef) w := by
  simp only [ldT, Bool.and_eq_true, Bool.or_eq_true, beq_iff_eq] at h
  obtain ⟨⟨h1, h2⟩, h3⟩ := h
  unfold Go.part ldV
  rw [Sem.run_bind, agg_run h2 w]
  cases agg with
  | true =>
    simp only [Result.andThen_ok, if_true, Sem.run_bind, sz_run h1 w, Sem.run_pure]
    congr 2
    apply Array.ext
    · simp; omega
    · intro i h4 h5
      simp at h4 h5
      simp [show off + i < us.size by omega]
  | false =>
    simp at h3
    subst h3
    simp [show off < us.size by omega]

section
variable {P : Program} {chk : Nat → List Nat → Code → ACode → Bool} {p : AProg} {S : Gh} {H : H} {w : World}
variable {N : Nat} {B : List Nat} {Pv : Nat → Option Nat} {e : Env} {tmps : Array Value} {o : Oper} {v : AV} {wr : Option (Nat × AV)}

theorem part_of {cs : List AV} {us : Array Value} {off n : Nat} {agg : Bool} (hv : VRs S cs us.toList) (hp : part cs off n agg = some v) (hn : agg = true ∨ n = 1) :
    VR S v (ldV agg n fun i => us.getD (off + i) undef) ∧ off + n ≤ us.size := by
  have hl := part_len hp
  have hsz : us.size = cs.length := by have := hv.1; simpa using this
  exact ⟨(part_VR hp (fun i h1 h2 => by
    have := hv.2 i (by omega)
    rw [show off + (i - off) = i by omega]
    simpa [List.getD_eq_getElem?_getD, Array.getD_eq_getD_getElem?] using this) hn).1, by omega⟩

variable (hw : WR chk p.glob S H w) (hf : FR N B S Pv e tmps w)
include hw hf

theorem p_index {len sz agg x i} (hc : chkP P N B o (.index len sz agg x i) = true) (hs : stepP p e (.index len sz agg x i) = some (v, wr)) : PG P w N S e tmps o v wr := by
  simp only [chkP] at hc
  split at hc
  · rename_i t y j ho
    simp only [Bool.and_eq_true] at hc
    obtain ⟨⟨h1, h2⟩, h3⟩ := hc
    split at h3
    · rename_i el hel
      have hn : agg = true ∨ sz = 1 := by
        simp only [ldT, Bool.and_eq_true, Bool.or_eq_true, beq_iff_eq] at h3; exact h3.2
      simp only [stepP] at hs
      split at hs
      · rename_i cs k n hx hi
        split at hs
        · rename_i hb
          split at hs
          · rename_i v' hv'
            cases hs
            obtain ⟨us, hE, hV⟩ := (ev_ok hw hf h1 hx).agg_inv
            obtain ⟨hP, hl⟩ := part_of hV hv' hn
            obtain ⟨hu, hz⟩ := arr_ok hel
            refine ⟨rfl, _, ?_, .inl hP⟩
            simp [execOp, ho, hE, (ev_ok hw hf h2 hi).int_inv, Instr.index, asIntOf, run_underlying hu, hb.1, hb.2, sz_run hz, part_run h3 hl]
          · cases hs
        · cases hs
      · cases hs
    · cases h3
  · cases hc

theorem p_field {off n agg x} (hc : chkP P N B o (.field off n agg x) = true) (hs : stepP p e (.field off n agg x) = some (v, wr)) : PG P w N S e tmps o v wr := by
  simp only [chkP] at hc
  split at hc
  · rename_i t y f ho
    simp only [Bool.and_eq_true] at hc
    obtain ⟨h1, h3⟩ := hc
    split at h3
    · rename_i el hel
      have hn : agg = true ∨ n = 1 := by
        simp only [ldT, Bool.and_eq_true, Bool.or_eq_true, beq_iff_eq] at h3; exact h3.2
      simp only [stepP] at hs
      split at hs
      · rename_i cs hx
        split at hs
        · rename_i v' hv'
          cases hs
          obtain ⟨us, hE, hV⟩ := (ev_ok hw hf h1 hx).agg_inv
          obtain ⟨hP, hl⟩ := part_of hV hv' hn
          obtain ⟨fs, fl, hu, hfl, rfl, rfl⟩ := fld_ok hel
          refine ⟨rfl, _, ?_, .inl hP⟩
          simp [execOp, ho, hE, Instr.field, run_underlying hu, hfl, asAgg, part_run h3 hl]
        · cases hs
      · cases hs
    · cases h3
  · cases hc

omit hw hf in
theorem foldMin {k : IntKind} : ∀ {xs : List AV} {us : List Value} {a : Int} {r : Int}, VRs S xs us →
    (xs.foldl (init := some a) fun acc x => match acc, x with | some a, .int k' b => if k = k' then some (if b < a then b else a) else none | _, _ => none) = some r →
    (us.foldlM Builtin.min2 (.int k a)).run P w = .ok (.int k r) w := by
  intro xs
  induction xs with
  | nil => intro us a r hv h; cases us with
    | nil => simp at h; subst h; simp
    | cons _ _ => have := hv.1; simp at this
  | cons x xs ih =>
    intro us a r hv h
    cases us with
    | nil => have := hv.1; simp at this
    | cons u us =>
      simp only [List.foldl_cons] at h
      have hnone : ∀ ys : List AV, (ys.foldl (init := (none : Option Int)) fun acc x => match acc, x with | some a, .int k' b => if k = k' then some (if b < a then b else a) else none | _, _ => none) = none := by
        intro ys; induction ys with
        | nil => rfl
        | cons y ys ih => simp only [List.foldl_cons]; exact ih
      split at h
      · rename_i a' k' b ha
        cases ha
        by_cases hk : k = k'
        · subst hk
          rw [if_pos rfl] at h
          have hu := hv.head.int_inv
          subst hu
          simp only [List.foldlM_cons, Builtin.min2, Sem.run_bind, Sem.run_pure, Result.andThen_ok]
          exact ih hv.tail h
        · rw [if_neg hk, hnone] at h; cases h
      · rw [hnone] at h; cases h

omit hw hf in
theorem foldMax {k : IntKind} : ∀ {xs : List AV} {us : List Value} {a : Int} {r : Int}, VRs S xs us →
    (xs.foldl (init := some a) fun acc x => match acc, x with | some a, .int k' b => if k = k' then some (if b > a then b else a) else none | _, _ => none) = some r →
    (us.foldlM Builtin.max2 (.int k a)).run P w = .ok (.int k r) w := by
  intro xs
  induction xs with
  | nil => intro us a r hv h; cases us with
    | nil => simp at h; subst h; simp
    | cons _ _ => have := hv.1; simp at this
  | cons x xs ih =>
    intro us a r hv h
    cases us with
    | nil => have := hv.1; simp at this
    | cons u us =>
      simp only [List.foldl_cons] at h
      have hnone : ∀ ys : List AV, (ys.foldl (init := (none : Option Int)) fun acc x => match acc, x with | some a, .int k' b => if k = k' then some (if b > a then b else a) else none | _, _ => none) = none := by
        intro ys; induction ys with
        | nil => rfl
        | cons y ys ih => simp only [List.foldl_cons]; exact ih
      split at h
      · rename_i a' k' b ha
        cases ha
        by_cases hk : k = k'
        · subst hk
          rw [if_pos rfl] at h
          have hu := hv.head.int_inv
          subst hu
          simp only [List.foldlM_cons, Builtin.max2, Sem.run_bind, Sem.run_pure, Result.andThen_ok]
          exact ih hv.tail h
        · rw [if_neg hk, hnone] at h; cases h
      · rw [hnone] at h; cases h

theorem p_mn {xs} (hc : chkP P N B o (.mn xs) = true) (hs : stepP p e (.mn xs) = some (v, wr)) : PG P w N S e tmps o v wr := by
  simp only [chkP] at hc
  split at hc
  · rename_i c ho
    simp only [Bool.and_eq_true] at hc
    obtain ⟨h1, h2⟩ := hc
    split at h1
    · rename_i hcal
      simp only [stepP] at hs
      split at hs
      · rename_i vs hvs
        split at hs
        · rename_i v' hv'
          cases hs
          have hV := evs_ok hw hf h2 hvs
          unfold mmI at hv'
          split at hv'
          · rename_i k a ys
            obtain ⟨r, hr, rfl⟩ := Option.map_eq_some_iff.1 hv'
            refine ⟨rfl, _, ?_, .inl (.int k r)⟩
            cases hl : c.args.toList with
            | nil => rw [hl] at hV; have := hV.1; simp at this
            | cons y ys' =>
              rw [hl] at hV
              have hu := hV.head.int_inv
              have := foldMin (P := P) (w := w) hV.tail hr
              have hargs : (c.args.map (evalT tmps)).toList = evalT tmps y :: ys'.map (evalT tmps) := by simp [hl]
              simp only [execOp, ho, resolve, hcal, Sem.run_bind, Sem.run_pure, Result.andThen_ok, invoke, builtin, Builtin.min_]
              split
              · rename_i hnil; rw [hargs] at hnil; cases hnil
              · rename_i x rest hx
                rw [hargs] at hx; cases hx
                rw [hu]
                simp only [Sem.run_bind, this]; rfl
          · cases hv'
        · cases hs
      · cases hs
    · cases h1
  · cases hc

theorem p_mx {xs} (hc : chkP P N B o (.mx xs) = true) (hs : stepP p e (.mx xs) = some (v, wr)) : PG P w N S e tmps o v wr := by
  simp only [chkP] at hc
  split at hc
  · rename_i c ho
    simp only [Bool.and_eq_true] at hc
    obtain ⟨h1, h2⟩ := hc
    split at h1
    · rename_i hcal
      simp only [stepP] at hs
      split at hs
      · rename_i vs hvs
        split at hs
        · rename_i v' hv'
          cases hs
          have hV := evs_ok hw hf h2 hvs
          unfold mmI at hv'
          split at hv'
          · rename_i k a ys
            obtain ⟨r, hr, rfl⟩ := Option.map_eq_some_iff.1 hv'
            refine ⟨rfl, _, ?_, .inl (.int k r)⟩
            cases hl : c.args.toList with
            | nil => rw [hl] at hV; have := hV.1; simp at this
            | cons y ys' =>
              rw [hl] at hV
              have hu := hV.head.int_inv
              have := foldMax (P := P) (w := w) hV.tail hr
              have hargs : (c.args.map (evalT tmps)).toList = evalT tmps y :: ys'.map (evalT tmps) := by simp [hl]
              simp only [execOp, ho, resolve, hcal, Sem.run_bind, Sem.run_pure, Result.andThen_ok, invoke, builtin, Builtin.max_]
              split
              · rename_i hnil; rw [hargs] at hnil; cases hnil
              · rename_i x rest hx
                rw [hargs] at hx; cases hx
                rw [hu]
                simp only [Sem.run_bind, this]; rfl
          · cases hv'
        · cases hs
      · cases hs
    · cases h1
  · cases hc
end
end Av
end

section
/- Numbers, comparisons, parts of slices, struct literals. -/
namespace Av
open Go

theorem binI_run {P : Program} {S : Gh} {w : World} {op : BinOp} {k : IntKind} {a b : Int} {t : Nat} {r : AV} (hn : op ≠ .shl ∧ op ≠ .shr) (h : binI op k a b = some r) :
    ∃ u, (binOp op t (.int k a) (.int k b)).run P w = .ok u w ∧ VR S r u := by
  unfold binI at h
  cases op <;> simp only at h
  case shl => exact absurd rfl hn.1
  case shr => exact absurd rfl hn.2
  case quo => split at h <;> cases h; rename_i h0; exact ⟨_, by simp [binOp, Op.intDiv, h0], .int _ _⟩
  case rem => split at h <;> cases h; rename_i h0; exact ⟨_, by simp [binOp, Op.intDiv, h0], .int _ _⟩
  all_goals first
    | (cases h; done)
    | (cases h; exact ⟨_, by simp only [binOp, Op.intArith, Op.intBits, Op.intCmp, ne_eq, not_true_eq_false, if_false]; rfl, .int _ _⟩)
    | (cases h; exact ⟨_, by simp only [binOp, Op.intArith, Op.intBits, Op.intCmp, ne_eq, not_true_eq_false, if_false]; rfl, .bool _⟩)

theorem shift_run {P : Program} {S : Gh} {w : World} {op : BinOp} {k k' : IntKind} {a b : Int} {t : Nat} {r : AV} (hn : op = .shl ∨ op = .shr) (h : shift op k a b = some r) :
    ∃ u, (binOp op t (.int k a) (.int k' b)).run P w = .ok u w ∧ VR S r u := by
  unfold shift at h
  split at h
  · cases h
  · rename_i h0
    rcases hn with rfl | rfl
    · cases h
      refine ⟨_, ?_, .int _ _⟩
      simp only [binOp, Op.shift, if_neg h0]
      exact Sem.run_pure ..
    · cases h
      refine ⟨_, ?_, .int _ _⟩
      simp only [binOp, Op.shift, if_neg h0]
      exact Sem.run_pure ..

theorem guard_int {P : Program} {w : World} {op : BinOp} {t : Nat} {x y : Operand} {k k' : IntKind} {a b : Int} : (eqGuard op t x y (.int k a) (.int k' b)).run P w = .ok () w := by
  unfold eqGuard; cases op <;> rfl

/-- numbers one by one -/
theorem aeq1_inv {S : Gh} {x y : AV} {u u' : Value} {b : Bool} (hx : VR S x u) (hy : VR S y u') (h : aeq1 x y = some b) :
    ∃ k m n, u = .int k m ∧ u' = .int k n ∧ b = (m == n) := by
  unfold aeq1 at h
  split at h
  · rename_i k a k' b'
    split at h
    · rename_i hk; subst hk; cases h
      exact ⟨_, _, _, hx.int_inv, hy.int_inv, rfl⟩
    · cases h
  · cases h

theorem part1 {P : Program} {w : World} {t off : Nat} (h : ldT P t 1 false = true) {us : Array Value} {u : Value} (hu : us[off]? = some u) : (Go.part t us off).run P w = .ok u w := by
  have hl : off < us.size := (Array.getElem?_eq_some_iff.1 hu).1
  rw [part_run h (by omega)]
  simp [ldV, Array.getD_eq_getD_getElem?, hu]

/-- what is known of fields from the n-th on -/
def okFs (P : Program) (n : Nat) (fs : List Field) : Prop := ∀ j f, fs[j]? = some f → f.name ≠ "_" ∧ f.offset = n + j ∧ ldT P f.type 1 false = true ∧ ∃ k, P.underlying f.type = some (.int k)

theorem eqFields_run {P : Program} {S : Gh} {w : World} {d : Nat} {us us' : Array Value} : ∀ (fs : List Field) (n : Nat) (xs ys : List AV) (b : Bool), okFs P n fs → fs.length = xs.length →
    (∀ j x, xs[j]? = some x → ∃ u, us[n + j]? = some u ∧ VR S x u) → (∀ j y, ys[j]? = some y → ∃ u, us'[n + j]? = some u ∧ VR S y u) → aeqs xs ys = some b →
    (Op.eqFields (d + 1) us us' fs).run P w = .ok b w := by
  intro fs
  induction fs with
  | nil =>
    intro n xs ys b _ hl _ _ h
    cases xs with
    | nil => cases ys with
      | nil => simp [aeqs] at h; subst h; rfl
      | cons => simp [aeqs] at h
    | cons => simp at hl
  | cons f fs ih =>
    intro n xs ys b hf hl hx hy h
    cases xs with
    | nil => simp at hl
    | cons x xs =>
      cases ys with
      | nil => simp [aeqs] at h
      | cons y ys =>
        unfold aeqs at h
        split at h
        · rename_i b1 b2 h1 h2
          cases h
          obtain ⟨hn, ho, hld, k0, hk⟩ := hf 0 f rfl
          obtain ⟨u, hu, hU⟩ := hx 0 x rfl
          obtain ⟨u', hu', hU'⟩ := hy 0 y rfl
          obtain ⟨k, m, m', rfl, rfl, rfl⟩ := aeq1_inv hU hU' h1
          have ih' := ih (n + 1) xs ys b2 (fun j f' hf' => by have := hf (j + 1) f' hf'; rw [show n + 1 + j = n + (j + 1) by omega]; exact this) (by simpa using hl)
            (fun j x' hx' => by have := hx (j + 1) x' hx'; rw [show n + 1 + j = n + (j + 1) by omega]; exact this) (fun j x' hx' => by have := hy (j + 1) x' hx'; rw [show n + 1 + j = n + (j + 1) by omega]; exact this) h2
          have p1 := part1 (w := w) (off := f.offset) hld (by rw [ho]; exact hu)
          have p2 := part1 (w := w) (off := f.offset) hld (by rw [ho]; exact hu')
          simp only [Op.eqFields, ne_eq, hn, not_false_eq_true, if_true, Sem.run_bind, p1, p2, Result.andThen_ok, run_equalIn_int w d f.type k k0 m m' hk]
          cases hb : (m == m') with
          | true => simp only [Bool.not_true, Bool.false_eq_true, if_false, Bool.true_and]; exact ih'
          | false => simp
        · cases h

/-- an array's items -/
theorem eqItems_run {P : Program} {S : Gh} {w : World} {d el : Nat} {kk : IntKind} {us us' : Array Value} (hld : ldT P el 1 false = true) (hk : P.underlying el = some (.int kk)) : ∀ (l n : Nat) (xs ys : List AV) (b : Bool), l = xs.length →
    (∀ j x, xs[j]? = some x → ∃ u, us[n + j]? = some u ∧ VR S x u) → (∀ j y, ys[j]? = some y → ∃ u, us'[n + j]? = some u ∧ VR S y u) → aeqs xs ys = some b →
    (Op.eqItems (d + 1) el 1 us us' (List.range' n l)).run P w = .ok b w := by
  intro l
  induction l with
  | zero =>
    intro n xs ys b hl _ _ h
    cases xs with
    | nil => cases ys with
      | nil => simp [aeqs] at h; subst h; rfl
      | cons => simp [aeqs] at h
    | cons => simp at hl
  | succ l ih =>
    intro n xs ys b hl hx hy h
    cases xs with
    | nil => simp at hl
    | cons x xs =>
      cases ys with
      | nil => simp [aeqs] at h
      | cons y ys =>
        unfold aeqs at h
        split at h
        · rename_i b1 b2 h1 h2
          cases h
          obtain ⟨u, hu, hU⟩ := hx 0 x rfl
          obtain ⟨u', hu', hU'⟩ := hy 0 y rfl
          obtain ⟨k, m, m', rfl, rfl, rfl⟩ := aeq1_inv hU hU' h1
          have ih' := ih (n + 1) xs ys b2 (by simpa using hl)
            (fun j x' hx' => by have := hx (j + 1) x' hx'; rw [show n + 1 + j = n + (j + 1) by omega]; exact this) (fun j x' hx' => by have := hy (j + 1) x' hx'; rw [show n + 1 + j = n + (j + 1) by omega]; exact this) h2
          have p1 := part1 (w := w) (off := n * 1) hld (us := us) (by simpa using hu)
          have p2 := part1 (w := w) (off := n * 1) hld (us := us') (by simpa using hu')
          simp only [List.range'_succ, Op.eqItems, Sem.run_bind, p1, p2, Result.andThen_ok, run_equalIn_int w d el k kk m m' hk]
          cases hb : (m == m') with
          | true => simp only [Bool.not_true, Bool.false_eq_true, if_false, Bool.true_and]; exact ih'
          | false => simp
        · cases h

/-- two structs or arrays of numbers alone -/
theorem equal_run {P : Program} {S : Gh} {w : World} {t n : Nat} (ht : flatA P t n = true) {x y : AV} {u u' : Value} {b : Bool} (hx : VR S x u) (hy : VR S y u') (h : eqk (some n) x y = some b) :
    (Op.equal t u u').run P w = .ok b w ∧ (∃ us us', u = .agg us ∧ u' = .agg us') ∧ P.eqGuardType P.depth t = false := by
  unfold eqk at h
  split at h
  · rename_i heq; cases heq
  · rename_i n' xs ys hn
    cases hn
    split at h
    · rename_i hl
      obtain ⟨us, rfl, hU⟩ := hx.agg_inv
      obtain ⟨us', rfl, hU'⟩ := hy.agg_inv
      have gx : ∀ j x, xs[j]? = some x → ∃ u, us[0 + j]? = some u ∧ VR S x u := fun j x hx => by
        obtain ⟨v, h1, h2⟩ := hU.get hx; exact ⟨v, by simpa using h1, h2⟩
      have gy : ∀ j x, ys[j]? = some x → ∃ u, us'[0 + j]? = some u ∧ VR S x u := fun j x hx => by
        obtain ⟨v, h1, h2⟩ := hU'.get hx; exact ⟨v, by simpa using h1, h2⟩
      unfold flatA at ht
      split at ht
      · rename_i fs hu
        simp only [Bool.and_eq_true, Bool.not_eq_true', beq_iff_eq] at ht
        obtain ⟨⟨⟨hst, hg⟩, hsz⟩, hall⟩ := ht
        refine ⟨?_, ⟨_, _, rfl, rfl⟩, hg⟩
        have hfo : P.fieldsOf t = fs := by simp [Program.fieldsOf, hu]
        have hr := run_equalIn_struct (P := P) w 9999 t us us' (by rw [hfo]; exact hu) hst
        rw [hfo] at hr
        unfold Op.equal Op.maxDepth
        rw [hr]
        refine eqFields_run (S := S) fs.toList 0 xs ys b (fun j f hf => ?_) (by simp; omega) gx gy h
        have hm : (f, j) ∈ fs.toList.zipIdx := by
          rw [List.mem_iff_getElem?]; exact ⟨j, by simp [List.getElem?_zipIdx, hf]⟩
        have := List.all_eq_true.1 hall _ hm
        simp only [Bool.and_eq_true, bne_iff_ne, ne_eq, beq_iff_eq] at this
        obtain ⟨⟨⟨h1, h2⟩, h3⟩, h4⟩ := this
        refine ⟨h1, by simpa using h2, h3, ?_⟩
        split at h4
        · rename_i k hk; exact ⟨k, hk⟩
        · cases h4
      · rename_i m el hu
        simp only [Bool.and_eq_true, Bool.not_eq_true', beq_iff_eq] at ht
        obtain ⟨⟨⟨rfl, hg⟩, hld⟩, hk⟩ := ht
        refine ⟨?_, ⟨_, _, rfl, rfl⟩, hg⟩
        split at hk
        · rename_i k hk'
          have hsz : szOf P el 1 = true := by simp only [ldT, Bool.and_eq_true] at hld; exact hld.1.1
          obtain ⟨i, hi, hi1⟩ := sz_map hsz
          have hco : P.cellsOf el = 1 := by simp [Program.cellsOf, hi, hi1]
          unfold Op.equal Op.maxDepth
          rw [run_equalIn_array (P := P) w 9999 us us' hu hi, hco, List.range_eq_range']
          exact eqItems_run (S := S) hld hk' m 0 xs ys b hl.1.symm gx gy h
        · cases hk
      · cases ht
    · cases h
  · cases h

section
variable {P : Program} {chk : Nat → List Nat → Code → ACode → Bool} {p : AProg} {S : Gh} {H : H} {w : World}
variable {N : Nat} {B : List Nat} {Pv : Nat → Option Nat} {e : Env} {tmps : Array Value} {o : Oper} {v : AV} {wr : Option (Nat × AV)}
variable (hw : WR chk p.glob S H w) (hf : FR N B S Pv e tmps w)
include hw hf

theorem p_bin {op x y} (hc : chkP P N B o (.bin op x y) = true) (hs : stepP p e (.bin op x y) = some (v, wr)) : PG P w N S e tmps o v wr := by
  simp only [chkP] at hc
  split at hc
  · rename_i op' t x' y' t' ho
    simp only [Bool.and_eq_true, beq_iff_eq] at hc
    obtain ⟨⟨rfl, h1⟩, h2⟩ := hc
    simp only [stepP] at hs
    split at hs
    · rename_i a b ha hb
      split at hs
      · rename_i r hr
        cases hs
        have hA := ev_ok hw hf h1 ha
        have hB := ev_ok hw hf h2 hb
        unfold bin at hr
        split at hr
        · rename_i k m k' m'
          obtain ⟨u, hu, hU⟩ : ∃ u, (binOp op t (.int k m) (.int k' m')).run P w = .ok u w ∧ VR S v u := by
            split at hr
            · exact shift_run (.inl rfl) hr
            · exact shift_run (.inr rfl) hr
            · rename_i n1 n2
              split at hr
              · rename_i hk; subst hk; exact binI_run ⟨fun h => n1 h, fun h => n2 h⟩ hr
              · cases hr
          refine ⟨rfl, u, ?_, .inl hU⟩
          simp only [execOp, ho, hA.int_inv, hB.int_inv, Sem.run_bind, guard_int, Result.andThen_ok, hu]
          rfl
        · cases hr
      · cases hs
    · cases hs
  · cases hc

theorem p_eqn {k neg x y} (hc : chkP P N B o (.eqn k neg x y) = true) (hs : stepP p e (.eqn k neg x y) = some (v, wr)) : PG P w N S e tmps o v wr := by
  simp only [chkP] at hc
  split at hc
  · rename_i op t x' y' t' ho
    simp only [Bool.and_eq_true] at hc
    obtain ⟨⟨⟨h0, h1⟩, h2⟩, h3⟩ := hc
    simp only [stepP] at hs
    split at hs
    · rename_i a b ha hb
      split at hs
      · rename_i r hr
        cases hs
        have hA := ev_ok hw hf h1 ha
        have hB := ev_ok hw hf h2 hb
        suffices hq : (eqGuard op t x' y' (evalT tmps x') (evalT tmps y')).run P w = .ok () w ∧
            (op = .eql → (binOp .eql t (evalT tmps x') (evalT tmps y')).run P w = .ok (.bool r) w) ∧ (op = .neq → (binOp .neq t (evalT tmps x') (evalT tmps y')).run P w = .ok (.bool (!r)) w) by
          obtain ⟨q1, q2, q3⟩ := hq
          split at h0
          · have hn : neg = false := by simpa using h0
            subst hn
            refine ⟨rfl, .bool r, ?_, .inl (by simpa using VR.bool r)⟩
            simp only [execOp, ho, Sem.run_bind, q1, q2 rfl, Result.andThen_ok]; rfl
          · have hn : neg = true := h0
            subst hn
            refine ⟨rfl, .bool (!r), ?_, .inl (by simpa using VR.bool (!r))⟩
            simp only [execOp, ho, Sem.run_bind, q1, q3 rfl, Result.andThen_ok]; rfl
          · cases h0
        cases k with
        | none =>
          obtain ⟨m, n, rfl, rfl, rfl⟩ : ∃ m n, a = .bool m ∧ b = .bool n ∧ r = (m == n) := by
            unfold eqk at hr
            split at hr
            · cases hr; exact ⟨_, _, rfl, rfl, rfl⟩
            · rename_i heq; cases heq
            · cases hr
          rw [hA.bool_inv, hB.bool_inv]
          dsimp only at h3
          split at h3
          · rename_i hu
            refine ⟨(by unfold eqGuard; split at h0 <;> first | rfl | (cases h0; done)), fun _ => ?_, fun _ => ?_⟩
            · simp [binOp, Op.equal, Op.maxDepth, run_equalIn_bool' w 9999 t m n hu]
            · simp [binOp, Op.equal, Op.maxDepth, run_equalIn_bool' w 9999 t m n hu]
          · cases h3
        | some n =>
          obtain ⟨he, ⟨us, us', hu, hu'⟩, hg⟩ := equal_run (P := P) (w := w) h3 hA hB hr
          rw [hu, hu'] at he ⊢
          refine ⟨run_eqGuard_agg w op t x' y' us us' hg, fun _ => ?_, fun _ => ?_⟩
          · simp only [binOp, Sem.run_bind, he]; rfl
          · simp only [binOp, Sem.run_bind, he]; rfl
      · cases hs
    · cases hs
  · cases hc
end
end Av
end

section
/- Parts of slices, struct literals, frozen maps. -/
namespace Av
open Go

theorem natOf_int {v : AV} {n : Nat} (h : natOf v = some n) : ∃ k i, v = .int k i ∧ 0 ≤ i ∧ i.toNat = n := by
  unfold natOf at h
  split at h
  · rename_i k i
    split at h
    · rename_i h0; cases h; exact ⟨k, i, rfl, h0, rfl⟩
    · cases h
  · cases h
theorem sliceBound_run {P : Program} {w : World} {k : IntKind} {i : Int} {y n : Nat} {code : BoundsCode} (h0 : 0 ≤ i) (hn : i.toNat = n) (hy : n ≤ y) : (Instr.sliceBound (.int k i) y code).run P w = .ok n w := by
  subst hn
  simp [Instr.sliceBound, asIntOf, h0, show i ≤ (y : Int) by omega]

section
variable {P : Program} {chk : Nat → List Nat → Code → ACode → Bool} {p : AProg} {S : Gh} {H : H} {w : World}
variable {N : Nat} {B : List Nat} {Pv : Nat → Option Nat} {e : Env} {tmps : Array Value} {o : Oper} {v : AV} {wr : Option (Nat × AV)}
variable (hw : WR chk p.glob S H w) (hf : FR N B S Pv e tmps w)
include hw hf

theorem onat_run {d n : Nat} {a : Option Operand} {q : Option Opd} (hc : chkO N a q = true) (h : onat p e d q = some n) : (a = none ∧ q = none ∧ n = d) ∨ ∃ x q' k i, a = some x ∧ q = some q' ∧ evalT tmps x = .int k i ∧ 0 ≤ i ∧ i.toNat = n := by
  cases a with
  | none => cases q with
    | none => simp [onat] at h; exact .inl ⟨rfl, rfl, h.symm⟩
    | some => simp [chkO] at hc
  | some x => cases q with
    | none => simp [chkO] at hc
    | some q' =>
      simp only [chkO] at hc
      simp only [onat] at h
      split at h
      · rename_i v hv
        obtain ⟨k, i, rfl, h0, h1⟩ := natOf_int h
        exact .inr ⟨x, q', k, i, rfl, rfl, (ev_ok hw hf hc hv).int_inv, h0, h1⟩
      · cases h

omit hw hf in
theorem cut_some {es : List AV} {l h : Nat} {m : Option Nat} (hh : cut es l h m = some v) : l ≤ h ∧ h ≤ es.length ∧ (∀ m', m = some m' → h ≤ m' ∧ m' ≤ es.length) ∧
    ∃ k, v = .sl ((es.take h).drop l) k ∧ (k = .shut ∨ (k = .exact ∧ m = some h)) := by
  unfold cut at hh
  split at hh
  · split at hh
    · rename_i hc; cases hh; exact ⟨hc.1, hc.2, by simp, _, rfl, .inl rfl⟩
    · cases hh
  · rename_i m'
    split at hh
    · rename_i hc; cases hh
      refine ⟨hc.1, by omega, fun m'' hm => by cases hm; exact hc.2, _, rfl, ?_⟩
      by_cases hm : m' = h
      · subst hm; exact .inr ⟨by simp, rfl⟩
      · exact .inl (by simp [hm])
    · cases hh

theorem p_slice {sz x lo hi mx} (hc : chkP P N B o (.slice sz x lo hi mx) = true) (hs : stepP p e (.slice sz x lo hi mx) = some (v, wr)) : PG P w N S e tmps o v wr := by
  simp only [chkP] at hc
  split at hc
  · rename_i t y lo' hi' mx' ho
    simp only [Bool.and_eq_true, Bool.or_eq_true] at hc
    obtain ⟨⟨⟨⟨⟨h1, h2⟩, h3⟩, h4⟩, h5⟩, h6⟩ := hc
    obtain ⟨el, hel⟩ := Option.isSome_iff_exists.1 h6
    obtain ⟨hu, hz⟩ := slT_ok hel
    simp only [stepP] at hs
    split at hs
    · rename_i es k hx
      by_cases hall : (es.all fun v => decide (v.cells.length = sz)) = true
      · rw [if_pos hall] at hs
        split at hs
        · rename_i l h m hl hh hm
          split at hs
          · rename_i v' hcut
            cases hs
            have hX := ev_ok hw hf h1 hx
            have hcells : ∀ a ∈ es, a.cells.length = sz := fun a ha => by have := List.all_eq_true.1 hall a ha; simpa using this
            obtain ⟨hlh, hhe, hmm, k', rfl, hk'⟩ := cut_some hcut
            obtain ⟨base, cap, hE, hcap⟩ : ∃ base cap, evalT tmps y = .slice base es.length cap ∧ es.length ≤ cap := by
              rcases hX.sl_inv with ⟨c, o', cap, sz', us, hE, _, _, _, hK⟩ | ⟨rfl, hE, _⟩
              · refine ⟨_, cap, hE, ?_⟩
                cases k with
                | exact => exact Nat.le_of_eq hK.symm
                | opn t => exact hK.2.1
                | shut => exact hK
              · exact ⟨_, 0, hE, Nat.le_refl _⟩
            have hmv : ∃ M, h ≤ M ∧ M ≤ cap ∧ (m = some h → M = h) ∧
                (Instr.sliceBounds true es.length cap (lo'.map (evalT tmps)) (hi'.map (evalT tmps)) (mx'.map (evalT tmps))).run P w = .ok (l, h, M) w := by
              have hL := onat_run hw hf h2 hl
              have hH := onat_run hw hf h3 hh
              cases mx' with
              | none =>
                have : mx = none := by cases mx <;> simp [chkO] at h4 <;> rfl
                subst this
                simp only [omx, Option.some.injEq] at hm
                subst hm
                refine ⟨cap, by omega, Nat.le_refl _, by simp, ?_⟩
                rcases hH with ⟨rfl, rfl, rfl⟩ | ⟨xh, qh, kh, ih, rfl, rfl, hh1, hh2, hh3⟩ <;>
                rcases hL with ⟨rfl, rfl, rfl⟩ | ⟨xl, ql, kl, il, rfl, rfl, hl1, hl2, hl3⟩
                · simp [Instr.sliceBounds]
                · simp [Instr.sliceBounds, hl1, sliceBound_run (P := P) (w := w) hl2 hl3 hlh]
                · simp [Instr.sliceBounds, hh1, sliceBound_run (P := P) (w := w) hh2 hh3 (Nat.le_trans hhe hcap)]
                · simp [Instr.sliceBounds, hh1, hl1, sliceBound_run (P := P) (w := w) hh2 hh3 (Nat.le_trans hhe hcap), sliceBound_run (P := P) (w := w) hl2 hl3 hlh]
              | some xm =>
                cases mx with
                | none => simp [chkO] at h4
                | some qm =>
                  simp only [omx] at hm
                  split at hm
                  · rename_i M hM
                    cases hm
                    obtain ⟨hm1, hm2⟩ := hmm M rfl
                    refine ⟨M, hm1, by omega, fun hq => by cases hq; rfl, ?_⟩
                    have hMM := onat_run hw hf h4 hM
                    rcases hMM with ⟨hq, _⟩ | ⟨xm', qm', km, im, hq, _, hm3, hm4, hm5⟩
                    · cases hq
                    cases hq
                    rcases hH with ⟨_, rfl, _⟩ | ⟨xh, qh, kh, ih, rfl, rfl, hh1, hh2, hh3⟩
                    · simp at h5
                    rcases hL with ⟨rfl, rfl, rfl⟩ | ⟨xl, ql, kl, il, rfl, rfl, hl1, hl2, hl3⟩
                    · simp [Instr.sliceBounds, hh1, hm3, sliceBound_run (P := P) (w := w) hm4 hm5 (Nat.le_trans hm2 hcap), sliceBound_run (P := P) (w := w) hh2 hh3 hm1]
                    · simp [Instr.sliceBounds, hh1, hm3, hl1, sliceBound_run (P := P) (w := w) hm4 hm5 (Nat.le_trans hm2 hcap), sliceBound_run (P := P) (w := w) hh2 hh3 hm1, sliceBound_run (P := P) (w := w) hl2 hl3 hlh]
                  · cases hm
            obtain ⟨M, hM1, hM2, hM3, hrun⟩ := hmv
            refine ⟨rfl, .slice (if M = l then base else base.map (·.add (l * sz))) (h - l) (M - l), ?_, .inl ?_⟩
            · simp [execOp, ho, Instr.sliceAt, run_underlying hu, Instr.slice, hE, hrun, sz_run hz]
            · have hlen : ((es.take h).drop l).length = h - l := by simp; omega
              have hkok : ∀ c o, KOK S k' c o (h - l) (M - l) sz := fun c o => by
                rcases hk' with rfl | ⟨rfl, hm⟩
                · exact Nat.sub_le_sub_right hM1 l
                · have := hM3 hm; subst this; exact rfl
              rcases hX.sl_inv with ⟨c, o', cap', sz', us, hE', hcz, hG, hV, hK⟩ | ⟨rfl, hE', _⟩
              · rw [hE] at hE'; cases hE'
                have hsz : h - l = 0 ∨ sz' = sz := by
                  cases es with
                  | nil => simp at hhe; omega
                  | cons a es => right; rw [← hcz a (by simp), hcells a (by simp)]
                by_cases h0 : h - l = 0
                · have hnil : (es.take h).drop l = [] := List.length_eq_zero_iff.1 (by omega)
                  have hb : ∃ o2, (if M = l then some (⟨c, o', none⟩ : Addr) else (some (⟨c, o', none⟩ : Addr)).map (·.add (l * sz))) = some ⟨c, o2, none⟩ := by
                    split
                    · exact ⟨_, rfl⟩
                    · exact ⟨_, by rw [Option.map_some, add_mk]⟩
                  obtain ⟨o2, hb⟩ := hb
                  rw [hb, hnil]
                  exact .sl [] k' c o2 (h - l) (M - l) sz (fun _ => undef) (by simp; omega) (by simp) (fun i hi => by rw [h0] at hi; simp at hi) (fun i j hi => by omega) (hkok c o2)
                · have hs' : sz' = sz := hsz.resolve_left h0
                  subst hs'
                  have hml : M ≠ l := by omega
                  rw [if_neg hml, Option.map_some, add_mk]
                  refine .sl _ k' c _ (h - l) (M - l) sz' (fun i => us (l * sz' + i)) hlen (fun a ha => hcells a (List.mem_of_mem_take (List.mem_of_mem_drop ha))) (fun i hi => ?_) (fun i j hi hj => ?_) (hkok _ _)
                  · rw [Nat.add_assoc]
                    refine hG _ ?_
                    have : (l + (h - l)) * sz' ≤ es.length * sz' := Nat.mul_le_mul_right _ (by omega)
                    rw [Nat.add_mul] at this; omega
                  · have := hV (l + i) j (by omega) hj
                    rw [List.getD_eq_getElem?_getD (l := (es.take h).drop l), List.getElem?_drop, List.getElem?_take, if_pos (by omega), ← List.getD_eq_getElem?_getD]
                    rw [Nat.add_mul, Nat.add_assoc] at this
                    exact this
              · simp at hhe
                subst hhe
                have : l = 0 := by omega
                subst this
                rw [hE] at hE'; cases hE'
                have hM0 : M = 0 := by omega
                subst hM0
                refine .slnil k' fun t => ?_
                rcases hk' with rfl | ⟨rfl, _⟩ <;> simp
          · cases hs
        · cases hs
      · rw [if_neg hall] at hs; cases hs
    · cases hs
  · cases hc
end
end Av
end

section
/- Literals of structs and arrays; maps that stay. -/
namespace Av
open Go

theorem fold_set (off : Nat) : ∀ (l : List Value) (k : Nat) (cells : Array Value), off + k + l.length ≤ cells.size →
    ((l.zipIdx k).foldl (fun cs q => cs.setIfInBounds (off + q.2) q.1) cells).toList = cells.toList.take (off + k) ++ l ++ cells.toList.drop (off + k + l.length)
  | [], k, cells, _ => by simp
  | v :: l, k, cells, h => by
    simp only [List.zipIdx_cons, List.foldl_cons]
    rw [fold_set off l (k + 1) (cells.setIfInBounds (off + k) v) (by simp at h ⊢; omega)]
    have e := list_seg_step cells.toList (off + k) v l (by simp at h ⊢; omega)
    simpa [Array.toList_setIfInBounds, Nat.add_assoc] using e

theorem fold_set' (off : Nat) (vs cells : Array Value) (h : off + vs.size ≤ cells.size) :
    (vs.zipIdx.foldl (fun cs (x : Value × Nat) => match x with | (c, j) => cs.setIfInBounds (off + j) c) cells).toList = cells.toList.take off ++ vs.toList ++ cells.toList.drop (off + vs.size) := by
  rw [← Array.foldl_toList, Array.toList_zipIdx]
  have := fold_set off vs.toList 0 cells (by simpa using h)
  simpa using this

theorem splice_length {cs new : List AV} {off : Nat} (h : off + new.length ≤ cs.length) : (splice cs off new).length = cs.length := by
  simp [splice]; omega

section
variable {P : Program} {chk : Nat → List Nat → Code → ACode → Bool} {p : AProg} {S : Gh} {H : H} {w : World}
variable {N : Nat} {B : List Nat} {Pv : Nat → Option Nat} {e : Env} {tmps : Array Value} {o : Oper} {v : AV} {wr : Option (Nat × AV)}
variable (hw : WR chk p.glob S H w) (hf : FR N B S Pv e tmps w)
include hw hf

theorem fill_run {t : Nat} {pl : Nat → Option (Nat × Nat)} (hpl : ∀ i off n, place P t i off n = true → pl i = some (off, n)) : ∀ (parts : List (Nat × Operand)) (ps : List (Nat × Nat × Opd)) (cs cs' : List AV) (cells : Array Value),
    VRs S cs cells.toList → fill p e cs ps = some cs' → chkParts P N t parts ps = true →
    ∃ cells', Instr.fill pl cells (parts.map fun q => (q.1, evalT tmps q.2)) = some cells' ∧ VRs S cs' cells'.toList
  | [], [], cs, cs', cells, hv, h, _ => by
    simp [fill] at h; subst h
    exact ⟨cells, rfl, hv⟩
  | (i, y) :: parts, (off, n, x) :: ps, cs, cs', cells, hv, h, hc => by
    simp only [chkParts, Bool.and_eq_true] at hc
    obtain ⟨⟨h1, h2⟩, h3⟩ := hc
    unfold fill at h
    split at h
    · rename_i v hx
      split at h
      · rename_i hcond
        obtain ⟨hfl, hn, hl⟩ := hcond
        have hV := ev_ok hw hf h2 hx
        have hC := hV.cells (flat_ne_junk hfl)
        have hsz : (evalT tmps y).cells.size = n := by have := hC.1; simp at this; omega
        have hcl : cells.size = cs.length := by have := hv.1; simpa using this
        have hfold := fold_set' off (evalT tmps y).cells cells (by omega)
        obtain ⟨cells', hr, hV'⟩ := fill_run hpl parts ps _ cs' _ (by
          have := hv.splice hC (off := off)
          rw [show (evalT tmps y).cells.toList.length = (evalT tmps y).cells.size by simp] at this
          rw [← hfold] at this
          exact this) h h3
        refine ⟨cells', ?_, hV'⟩
        simp only [List.map_cons, Instr.fill, hpl i off n h1]
        rw [if_neg (by simp; omega)]
        exact hr
      · cases h
    · cases h
  | [], _ :: _, _, _, _, _, _, hc => by simp [chkParts] at hc
  | _ :: _, [], _, _, _, _, _, hc => by simp [chkParts] at hc

theorem p_build {zs ps} (hc : chkP P N B o (.build zs ps) = true) (hs : stepP p e (.build zs ps) = some (v, wr)) : PG P w N S e tmps o v wr := by
  simp only [chkP] at hc
  split at hc
  · rename_i t parts ho
    simp only [Bool.and_eq_true] at hc
    obtain ⟨⟨h1, h2⟩, h3⟩ := hc
    simp only [stepP] at hs
    split at hs
    · rename_i cs hcs
      cases hs
      -- the zero value
      unfold zmatch at h1
      split at h1
      · rename_i it hit
        simp only [Bool.and_eq_true] at h1
        obtain ⟨h1, _⟩ := h1
        split at h1
        · rename_i z hz
          have hZ : VRs S zs z.cells.toList := cms_ok h1
          suffices hb : ∃ cells, P.built t (parts.map fun q => (q.1, evalT tmps q.2)).toList = some cells ∧ VRs S cs cells.toList by
            obtain ⟨cells, hb, hV⟩ := hb
            refine ⟨rfl, .agg cells, ?_, .inl (by have := VR.agg' hV; simpa using this)⟩
            have := run_build w t (parts.map fun q => (q.1, evalT tmps q.2)) cells hb
            simp only [execOp, ho, Sem.run_bind]
            rw [show (Array.map (fun x => match x with | (i, x) => (i, evalT tmps x)) parts) = parts.map fun q => (q.1, evalT tmps q.2) from rfl, this]
            rfl
          unfold Program.built
          unfold sized at h2
          rw [hit]
          split at h2
          · rename_i fs hu
            rw [hu]
            simp only [hz]
            have hmap : ∃ places : List (Nat × Nat), fs.toList.mapM (fun f => (P.info? f.type).map fun i => (f.offset, i.size)) = some places ∧ ∀ i off n, place P t i off n = true → places.toArray[i]? = some (off, n) := by
              have hall : ∀ f ∈ fs.toList, (P.info? f.type).isSome = true := fun f hf => Array.all_eq_true_iff_forall_mem.1 h2 f (by simpa using hf)
              have key : ∀ l : List Field, (∀ f ∈ l, (P.info? f.type).isSome = true) → ∃ places : List (Nat × Nat), l.mapM (fun f => (P.info? f.type).map fun i => (f.offset, i.size)) = some places ∧
                  ∀ (i : Nat) f inf, l[i]? = some f → P.info? f.type = some inf → places[i]? = some (f.offset, inf.size) := by
                intro l
                induction l with
                | nil => intro _; exact ⟨[], rfl, fun i f inf hi => by simp at hi⟩
                | cons f l ih =>
                  intro hl
                  obtain ⟨inf, hinf⟩ := Option.isSome_iff_exists.1 (hl f (by simp))
                  obtain ⟨places, hp1, hp2⟩ := ih fun f hf => hl f (by simp [hf])
                  refine ⟨(f.offset, inf.size) :: places, by simp [List.mapM_cons, hinf, hp1], fun i f' inf' hi hinf' => ?_⟩
                  cases i with
                  | zero => simp at hi; subst hi; rw [hinf] at hinf'; cases hinf'; rfl
                  | succ i => simp at hi ⊢; exact hp2 i f' inf' hi hinf'
              obtain ⟨places, hp1, hp2⟩ := key fs.toList hall
              refine ⟨places, hp1, fun i off n hpl => ?_⟩
              unfold place at hpl
              rw [hu] at hpl
              simp only at hpl
              split at hpl
              · rename_i f hf'
                simp only [Bool.and_eq_true, beq_iff_eq] at hpl
                obtain ⟨rfl, hn⟩ := hpl
                obtain ⟨inf, hi, rfl⟩ := sz_map hn
                have := hp2 i f inf (by simpa using hf') hi
                simpa using this
              · cases hpl
            obtain ⟨places, hp1, hp2⟩ := hmap
            rw [hp1]
            simp only
            have := fill_run hw hf (pl := (places.toArray[·]?)) hp2 parts.toList ps zs cs z.cells hZ hcs h3
            simpa using this
          · rename_i len el hu
            rw [hu]
            simp only [hz]
            obtain ⟨ie, hie⟩ := Option.isSome_iff_exists.1 h2
            rw [hie]
            simp only
            have := fill_run hw hf (pl := fun i => some (i * ie.size, ie.size)) (t := t) (fun i off n hpl => by
              unfold place at hpl
              rw [hu] at hpl
              simp only [Bool.and_eq_true, beq_iff_eq] at hpl
              obtain ⟨hn, rfl⟩ := hpl
              obtain ⟨inf, hi, rfl⟩ := sz_map hn
              rw [hie] at hi; cases hi; rfl) parts.toList ps zs cs z.cells hZ hcs h3
            simpa using this
          · cases h2
        · cases h1
      · cases h1
    · cases hs
  · cases hc
/-- what was found -/
def Found (S : Gh) : Option AV → Option (Nat × Value) → Prop
  | none, none => True
  | some v, some (_, x) => VR S v x
  | _, _ => False

/-- a frozen map -/
theorem find_run {S : Gh} {kt n : Nat} (hk : keyT P kt n = true) {k : AV} {u : Value} (hU : VR S k u) : ∀ (ks vs : List AV) (ents : List MapEntry) (r : Option AV) (i : Nat), ents.length = ks.length → vs.length = ks.length →
    (∀ j, j < ks.length → VR S (ks.getD j .junk) (ents.getD j default).key) → (∀ j, j < ks.length → VR S (vs.getD j .junk) (ents.getD j default).val) →
    findv n k ks vs = some r →
    ∃ q, (Instr.findAsking kt u ents i).run P w = .ok q w ∧ Found S r q
  | [], vs, ents, r, i, hl, _, _, _, h => by
    have : ents = [] := List.length_eq_zero_iff.1 hl
    subst this
    simp [findv] at h; subst h
    exact ⟨none, rfl, trivial⟩
  | k' :: ks, vs, ents, r, i, hl, hl2, hK, hV, h => by
    cases ents with
    | nil => simp at hl
    | cons en ents =>
      cases vs with
      | nil => simp at hl2
      | cons v0 vs =>
        unfold findv at h
        simp only [keyT, Bool.and_eq_true] at hk
        split at h
        · rename_i heq
          cases h
          obtain ⟨he, _⟩ := equal_run (P := P) (w := w) hk.1 hU (by have := hK 0 (by simp); simpa using this) heq
          refine ⟨some (i, en.val), by simp [Instr.findAsking, he], ?_⟩
          have := hV 0 (by simp); simpa [Found] using this
        · rename_i heq
          obtain ⟨he, _⟩ := equal_run (P := P) (w := w) hk.1 hU (by have := hK 0 (by simp); simpa using this) heq
          obtain ⟨q, hq, hr⟩ := find_run (by simp only [keyT, Bool.and_eq_true]; exact hk) hU ks vs ents r (i + 1) (by simpa using hl) (by simpa using hl2)
            (fun j hj => by have := hK (j + 1) (by simpa using hj); simpa using this) (fun j hj => by have := hV (j + 1) (by simpa using hj); simpa using this) (by simpa using h)
          exact ⟨q, by simp [Instr.findAsking, he, hq], hr⟩
        · cases h

omit hw hf in
theorem key_check {kt n : Nat} (hk : keyT P kt n = true) {us : Array Value} (hn : us.size = n) {emp : Bool} {d : Nat} : (Instr.checkKey emp (d + 2) kt (.agg us)).run P w = .ok () w := by
  simp only [keyT, flatA, Bool.and_eq_true] at hk
  obtain ⟨h1, h2⟩ := hk
  split at h2
  · rename_i fs hu
    rw [hu] at h1
    simp only [Bool.and_eq_true, beq_iff_eq] at h1
    obtain ⟨⟨_, hsz⟩, hall⟩ := h1
    rw [Instr.checkKey, Sem.run_bind, run_underlying hu]
    simp only [Result.andThen_ok]
    have key : ∀ (l : List Field) (m : Nat), (∀ (j : Nat) f, l[j]? = some f → f.offset = m + j ∧ ldT P f.type 1 false = true ∧ (∃ k, P.underlying f.type = some (.int k)) ∧ m + j < us.size) →
        (forIn (m := Sem) l PUnit.unit fun f _ => do
          if f.name ≠ "_" then Instr.checkKey emp (d + 1) f.type (← Go.part f.type us f.offset)
          pure (ForInStep.yield PUnit.unit)).run P w = .ok PUnit.unit w := by
      intro l
      induction l with
      | nil => intro m _; simp
      | cons f l ih =>
        intro m hl
        obtain ⟨ho, hld, ⟨k, hk⟩, hlt⟩ := hl 0 f rfl
        have ih' := ih (m + 1) fun j f' hf' => by
          have := hl (j + 1) f' hf'; rw [show m + 1 + j = m + (j + 1) by omega]; exact this
        have p1 := part1 (w := w) (off := f.offset) hld (us := us) (u := us[m]) (by rw [ho]; simp)
        have p2 : ∀ x, (Instr.checkKey emp (d + 1) f.type x).run P w = .ok () w := fun x => by
          rw [Instr.checkKey, Sem.run_bind, run_underlying hk]; rfl
        simp only [List.forIn_cons, Sem.run_bind]
        by_cases hn : f.name ≠ "_"
        · simp only [ne_eq, hn, not_false_eq_true, if_true, Sem.run_bind, p1, Result.andThen_ok, p2, Sem.run_pure]
          exact ih'
        · simp only [ne_eq] at hn
          simp only [ne_eq, hn, if_false, Sem.run_pure, Result.andThen_ok]
          exact ih'
    have := key fs.toList 0 fun j f hf => by
      have hm : (f, j) ∈ fs.toList.zipIdx := by
        rw [List.mem_iff_getElem?]; exact ⟨j, by simp [List.getElem?_zipIdx, hf]⟩
      have := List.all_eq_true.1 hall _ hm
      simp only [Bool.and_eq_true, bne_iff_ne, ne_eq, beq_iff_eq] at this
      obtain ⟨⟨⟨h1, h2⟩, h3⟩, h4⟩ := this
      refine ⟨by simpa using h2, h3, ?_, ?_⟩
      · split at h4
        · rename_i k hk; exact ⟨k, hk⟩
        · cases h4
      · have := (List.getElem?_eq_some_iff.1 hf).1
        simp at this; omega
    simp at this ⊢
    simp [this]
  · cases h2
omit hw hf in
theorem findNow_str {fs : Array Field} {u : Value} {en : MapEntry} {ents : List MapEntry} {i : Nat} : Instr.findNow (.struct fs) u (en :: ents) i = none := by
  simp [Instr.findNow, Instr.sameNow]

theorem findKey_run {kt n : Nat} (hk : keyT P kt n = true) {k : AV} {u : Value} (hU : VR S k u) {ks vs : List AV} {ents : List MapEntry} {r : Option AV} (hl : ents.length = ks.length) (hl2 : vs.length = ks.length)
    (hK : ∀ j, j < ks.length → VR S (ks.getD j .junk) (ents.getD j default).key) (hV : ∀ j, j < ks.length → VR S (vs.getD j .junk) (ents.getD j default).val) (h : findv n k ks vs = some r) :
    ∃ q, (Instr.findKey kt u ents).run P w = .ok q w ∧ Found S r q := by
  obtain ⟨q, hq, hr⟩ := find_run (P := P) (w := w) hw hf hk hU ks vs ents r 0 hl hl2 hK hV h
  have hk' := hk
  simp only [keyT, Bool.and_eq_true] at hk'
  obtain ⟨_, h2⟩ := hk'
  split at h2
  · rename_i fs hu
    unfold Instr.findKey
    rw [Sem.run_bind, run_underlying hu]
    simp only [Result.andThen_ok]
    cases ents with
    | nil =>
      simp [Instr.findAsking] at hq; subst hq
      exact ⟨none, by simp [Instr.findNow], hr⟩
    | cons en ents => rw [findNow_str]; exact ⟨q, hq, hr⟩
  · cases h2

theorem p_lookupV {n z m k} (hc : chkP P N B o (.lookupV n z m k) = true) (hs : stepP p e (.lookupV n z m k) = some (v, wr)) : PG P w N S e tmps o v wr := by
  simp only [chkP] at hc
  split at hc
  · rename_i t m' k' ho
    simp only [Bool.and_eq_true] at hc
    obtain ⟨⟨h1, h2⟩, h3⟩ := hc
    split at h3
    · rename_i kt et hu
      simp only [Bool.and_eq_true] at h3
      obtain ⟨h3, h4⟩ := h3
      split at h4
      · rename_i ie hie
        split at h4
        · rename_i zv hz
          simp only [stepP] at hs
          split at hs
          · rename_i ks vs kv hm hkv
            by_cases hkl : keyLen n kv = true
            · rw [if_pos hkl] at hs
              have hM := ev_ok hw hf h1 hm
              have hK := ev_ok hw hf h2 hkv
              obtain ⟨c, ents, hE, hM1, hl1, hl2, hkk, hvv⟩ := hM.mv_inv
              obtain ⟨clock, hheap⟩ := hw.M c ents hM1
              obtain ⟨us, hus, husn⟩ : ∃ us, evalT tmps k' = .agg us ∧ us.size = n := by
                unfold keyLen at hkl
                split at hkl
                · rename_i xs
                  obtain ⟨us, h5, h6⟩ := hK.agg_inv
                  exact ⟨us, h5, by have := h6.1; simp at this hkl; omega⟩
                · cases hkl
              have hfin : ∀ r, findv n kv ks vs = some r → ∃ q, (Instr.findKey kt (evalT tmps k') ents.toList).run P w = .ok q w ∧ Found S r q :=
                fun r hr => findKey_run hw hf h3 hK (by rw [Array.length_toList]; exact hl1) hl2 (fun j hj => by have := hkk j hj; simpa [Array.getD_eq_getD_getElem?, List.getD_eq_getElem?_getD] using this)
                  (fun j hj => by have := hvv j hj; simpa [Array.getD_eq_getD_getElem?, List.getD_eq_getElem?_getD] using this) hr
              have hget : (getObj c).run P w = .ok (.map ents clock) w := by simp [getObj, Sem.run, hheap]
              have hkey : (Instr.checkKey ents.isEmpty 10000 kt (evalT tmps k')).run P w = .ok () w := by rw [hus]; exact key_check h3 husn
              split at hs
              · rename_i v' hv'
                cases hs
                obtain ⟨q, hq, hr⟩ := hfin _ hv'
                cases q with
                | none => exact hr.elim
                | some q =>
                  obtain ⟨i, x⟩ := q
                  refine ⟨rfl, x, ?_, .inl hr⟩
                  simp [execOp, ho, hE, Instr.lookup, run_underlying hu, hget, hkey, hq]
              · rename_i hv'
                cases hs
                obtain ⟨q, hq, hr⟩ := hfin _ hv'
                cases q with
                | some q => exact hr.elim
                | none =>
                  refine ⟨rfl, zv, ?_, .inl (cmatch_ok h4)⟩
                  simp [execOp, ho, hE, Instr.lookup, run_underlying hu, hget, hkey, hq, zeroValue, run_typeInfo w hie, hz]
              · cases hs
            · rw [if_neg hkl] at hs; cases hs
          · cases hs
        · cases h4
      · cases h4
    · cases h3
  · cases hc
end
end Av
end

section
/- What new memory and writes do to the relation. -/
namespace Av
open Go

theorem heap_alloc_at (w : World) (o : Obj) : (w.alloc o).heap[w.heap.size]? = some o := by
  show (w.heap.push o)[w.heap.size]? = some o
  simp

section
variable {chk : Nat → List Nat → Code → ACode → Bool} {gl : Nat → List AV} {S : Gh} {H : H} {w : World}

theorem WR.own_lt (h : WR chk gl S H w) {c : Nat} (ho : own S H c) : c < w.heap.size := by
  rcases ho with ⟨b, o, h1, _⟩ | ⟨t, i, h1, h2, rfl⟩
  · exact (h.dom b c h1).1
  · obtain ⟨i', arr, e, h3, h4, _⟩ := h.tok t h1
    rw [h2] at h3; cases h3
    exact (Array.getElem?_eq_some_iff.1 h4).1
theorem WR.G_lt (h : WR chk gl S H w) {c o : Nat} {v : Value} (hg : S.G c o = some v) : c < w.heap.size := block_lt_of_cell (h.G c o v hg)
theorem WR.G_none (h : WR chk gl S H w) {c : Nat} (hc : w.heap.size ≤ c) (o : Nat) : S.G c o = none := by
  cases hg : S.G c o with
  | none => rfl
  | some v => have := h.G_lt hg; omega
theorem WR.M_lt (h : WR chk gl S H w) {c : Nat} {m : Array MapEntry} (hg : S.M c = some m) : c < w.heap.size := by
  obtain ⟨_, h1⟩ := h.M c m hg
  exact (Array.getElem?_eq_some_iff.1 h1).1
theorem WR.M_none (h : WR chk gl S H w) {c : Nat} (hc : w.heap.size ≤ c) : S.M c = none := by
  cases hg : S.M c with
  | none => rfl
  | some v => have := h.M_lt hg; omega

/-- cells of a block come to stay -/
def Gh.addG (S : Gh) (c : Nat) (f : Nat → Option Value) : Gh := { S with G := fun c' o => if c' = c then f o else S.G c' o }
theorem Gh.le_addG {S : Gh} {c : Nat} {f : Nat → Option Value} (h : ∀ o v, S.G c o = some v → f o = some v) : S.le (S.addG c f) :=
  ⟨fun _ _ h => h, fun c' o v hv => by
    show (if c' = c then f o else S.G c' o) = some v
    split
    · rename_i hc; subst hc; exact h o v hv
    · exact hv, fun _ _ h => h, fun _ _ h => h, fun _ _ h => h⟩

theorem WR.addG (h : WR chk gl S H w) {c : Nat} {f : Nat → Option Value} (hle : ∀ o v, S.G c o = some v → f o = some v) (hc : ∀ o v, f o = some v → w.cell? ⟨c, o, none⟩ = some v) (hno : ¬ own S H c) :
    WR chk gl (S.addG c f) H w := by
  have hS := Gh.le_addG hle
  have hG : ∀ c' o v, (S.addG c f).G c' o = some v → (c' = c ∧ f o = some v) ∨ (c' ≠ c ∧ S.G c' o = some v) := by
    intro c' o v hv
    simp only [Gh.addG] at hv
    split at hv
    · rename_i hcc; exact .inl ⟨hcc, hv⟩
    · rename_i hcc; exact .inr ⟨hcc, hv⟩
  refine ⟨fun b c' hb => ?_, h.inj, fun c' o v hv => ?_, fun c' o v hv => ?_, h.M, h.Mown, fun t ht => ?_, h.tokinj, h.fresh, fun g i hi => ?_⟩
  · obtain ⟨h1, o, h2, h3⟩ := h.dom b c' hb
    exact ⟨h1, o, h2, h3.mono hS rfl fun _ => rfl⟩
  · rcases hG c' o v hv with ⟨rfl, h1⟩ | ⟨_, h1⟩
    · exact hc o v h1
    · exact h.G c' o v h1
  · rcases hG c' o v hv with ⟨rfl, h1⟩ | ⟨_, h1⟩
    · exact fun ho => hno (.inl ho)
    · exact h.Gown c' o v h1
  · obtain ⟨i, arr, e, h1, h2, h3, h4, h5⟩ := h.tok t ht
    refine ⟨i, arr, e, h1, h2, h3, fun o v hv => ?_, h5⟩
    rcases hG _ o v hv with ⟨hcc, _⟩ | ⟨_, h6⟩
    · exact absurd (.inr ⟨t, i, ht, h1, hcc⟩) hno
    · exact h4 o v h6
  · obtain ⟨v, h1, h2⟩ := h.glob g i hi
    exact ⟨v, hS.G _ _ _ h1, h2.mono hS⟩

/-- a new object -/
def Gh.bind (S : Gh) (b c : Nat) (a : Option Nat) : Gh := { S with ρ := fun b' => if b' = b then some c else S.ρ b', A := fun b' => if b' = b then a else S.A b' }
theorem Gh.le_bind {S : Gh} {b c : Nat} {a : Option Nat} (h : S.ρ b = none) (h' : S.A b = none) : S.le (S.bind b c a) :=
  ⟨fun b' c' hb => by
    show (if b' = b then some c else S.ρ b') = some c'
    split
    · rename_i hh; subst hh; rw [h] at hb; cases hb
    · exact hb, fun _ _ _ h => h, fun _ _ h => h, fun b' n hb => by
    show (if b' = b then a else S.A b') = some n
    split
    · rename_i hh; subst hh; rw [h'] at hb; cases hb
    · exact hb, fun _ _ h => h⟩

theorem WR.new (h : WR chk gl S H w) {o : AObj} {ob : Obj} {a : Option Nat} (ht : o ≠ .tok) (hOR : OR chk (S.bind H.n w.heap.size a) (w.alloc ob) H.n w.heap.size o) :
    WR chk gl (S.bind H.n w.heap.size a) (H.new o) (w.alloc ob) := by
  obtain ⟨f1, f2, f3, f4⟩ := h.fresh H.n (Nat.le_refl _)
  have hS : S.le (S.bind H.n w.heap.size a) := Gh.le_bind f1 f3
  have hold := fun c hc => heap_alloc_any w ob c hc
  have hget : ∀ b, b ≠ H.n → (H.new o).get b = H.get b := fun b hb => by simp [Av.H.new, hb]
  have hgetn : (H.new o).get H.n = some o := by simp [Av.H.new]
  have hρ : ∀ b c, (S.bind H.n w.heap.size a).ρ b = some c → (b = H.n ∧ c = w.heap.size) ∨ (b ≠ H.n ∧ S.ρ b = some c) := by
    intro b c hb
    simp only [Gh.bind] at hb
    split at hb
    · rename_i hh; cases hb; exact .inl ⟨hh, rfl⟩
    · rename_i hh; exact .inr ⟨hh, hb⟩
  have howned : ∀ c, owned (S.bind H.n w.heap.size a) (H.new o) c → c = w.heap.size ∨ owned S H c := by
    rintro c ⟨b, o', h1, h2, h3⟩
    rcases hρ b c h1 with ⟨_, rfl⟩ | ⟨hb, h4⟩
    · exact .inl rfl
    · rw [hget b hb] at h2; exact .inr ⟨b, o', h4, h2, h3⟩
  have htok : ∀ t, (H.new o).get t = some .tok → H.get t = some .tok := by
    intro t ht'
    by_cases hb : t = H.n
    · subst hb; rw [hgetn] at ht'; cases ht'; exact absurd rfl ht
    · rw [hget t hb] at ht'; exact ht'
  refine ⟨fun b c hb => ?_, fun b b' c o1 o2 h1 h2 h3 h4 h5 h6 => ?_, fun c o' v hv => ?_, fun c o' v hv ho => ?_, fun c m hm => ?_, fun c m hm ho => ?_, fun t ht' => ?_, fun t t' i i' h1 h2 h3 h4 h5 => h.tokinj t t' i i' (htok t h1) (htok t' h2) h3 h4 h5, fun b hb => ?_, fun g i hi => ?_⟩
  · rcases hρ b c hb with ⟨rfl, rfl⟩ | ⟨hbn, h1⟩
    · exact ⟨by simp, o, hgetn, hOR⟩
    · obtain ⟨h2, o', h3, h4⟩ := h.dom b c h1
      exact ⟨by simp; omega, o', by rw [hget b hbn]; exact h3, h4.mono hS (by simp [Gh.bind, hbn]) fun _ => hold c h2⟩
  · rcases hρ b c h1 with ⟨rfl, rfl⟩ | ⟨hbn, h1'⟩ <;> rcases hρ b' _ h2 with ⟨rfl, h2'⟩ | ⟨hbn', h2'⟩
    · rfl
    · have := (h.dom b' _ h2').1; omega
    · subst h2'; have := (h.dom b _ h1').1; omega
    · rw [hget b hbn] at h3; rw [hget b' hbn'] at h5
      exact h.inj b b' c o1 o2 h1' h2' h3 h4 h5 h6
  · have h1 := h.G c o' v hv
    have := h.G_lt hv
    rw [← h1]; simp only [World.cell?, hold c this]
  · rcases howned c ho with rfl | ho
    · have := h.G_lt hv; omega
    · exact h.Gown c o' v hv ho
  · obtain ⟨clock, h1⟩ := h.M c m hm
    exact ⟨clock, by rw [hold c (h.M_lt hm)]; exact h1⟩
  · rcases howned c ho with rfl | ho
    · have := h.M_lt hm; omega
    · exact h.Mown c m hm ho
  · obtain ⟨i, arr, e, h1, h2, h3, h4, h5⟩ := h.tok t (htok t ht')
    have hlt := (Array.getElem?_eq_some_iff.1 h2).1
    refine ⟨i, arr, e, h1, by rw [hold _ hlt]; exact h2, h3, h4, fun ho => ?_⟩
    rcases howned _ ho with hh | ho
    · omega
    · exact h5 ho
  · have hb' : H.n ≤ b := Nat.le_trans (Nat.le_succ _) hb
    have hne : b ≠ H.n := by intro hh; subst hh; exact absurd hb (Nat.not_succ_le_self _)
    obtain ⟨g1, g2, g3, g4⟩ := h.fresh b hb'
    exact ⟨by simp [Gh.bind, hne, g1], g2, by simp [Gh.bind, hne, g3], by rw [hget b hne]; exact g4⟩
  · obtain ⟨v, h1, h2⟩ := h.glob g i hi
    exact ⟨v, h1, h2.mono hS⟩

/-- an object's memory is written -/
theorem WR.put (h : WR chk gl S H w) {b c : Nat} {o o' : AObj} {w' : World} (hb : S.ρ b = some c) (hg : H.get b = some o) (ho : o.own = true) (ht : o' ≠ .tok)
    (hsz : w'.heap.size = w.heap.size) (hw : ∀ c', c' ≠ c → w'.heap[c']? = w.heap[c']?) (hOR : OR chk S w' b c o') : WR chk gl S (H.put b o') w' := by
  have hown : owned S H c := ⟨b, o, hb, hg, ho⟩
  have hget : ∀ k, k ≠ b → (H.put b o').get k = H.get k := fun k hk => by simp [Av.H.put, hk]
  have hgetb : (H.put b o').get b = some o' := by simp [Av.H.put]
  have howned : ∀ c', owned S (H.put b o') c' → owned S H c' := by
    rintro c' ⟨k, o2, h1, h2, h3⟩
    by_cases hk : k = b
    · subst hk; rw [hb] at h1; cases h1; exact hown
    · rw [hget k hk] at h2; exact ⟨k, o2, h1, h2, h3⟩
  have htok : ∀ t, (H.put b o').get t = some .tok → H.get t = some .tok ∧ t ≠ b := by
    intro t ht'
    by_cases hk : t = b
    · subst hk; rw [hgetb] at ht'; cases ht'; exact absurd rfl ht
    · rw [hget t hk] at ht'; exact ⟨ht', hk⟩
  refine ⟨fun k c' hk => ?_, fun k k' c' o1 o2 h1 h2 h3 h4 h5 h6 => ?_, fun c' o2 v hv => ?_, fun c' o2 v hv hh => h.Gown c' o2 v hv (howned c' hh), fun c' m hm => ?_, fun c' m hm hh => h.Mown c' m hm (howned c' hh), fun t ht' => ?_, fun t t' i i' h1 h2 h3 h4 h5 => h.tokinj t t' i i' (htok t h1).1 (htok t' h2).1 h3 h4 h5, fun k hk => ?_, h.glob⟩
  · by_cases hkb : k = b
    · subst hkb; rw [hb] at hk; cases hk
      exact ⟨by rw [hsz]; exact (h.dom k c hb).1, o', hgetb, hOR⟩
    · obtain ⟨h1, o2, h2, h3⟩ := h.dom k c' hk
      refine ⟨by omega, o2, by rw [hget k hkb]; exact h2, h3.mono (.refl _) rfl fun hh => ?_⟩
      refine hw c' fun hcc => hkb ?_
      subst hcc
      exact h.inj k b c' o2 o hk hb h2 hh hg ho
  · by_cases hkb : k = b <;> by_cases hkb' : k' = b
    · rw [hkb, hkb']
    · subst hkb
      rw [hget k' hkb'] at h5
      rw [hb] at h1; cases h1
      exact h.inj k k' c o o2 hb h2 hg ho h5 h6
    · subst hkb'
      rw [hget k hkb] at h3
      rw [hb] at h2; cases h2
      exact h.inj k k' c o1 o h1 hb h3 h4 hg ho
    · rw [hget k hkb] at h3; rw [hget k' hkb'] at h5
      exact h.inj k k' c' o1 o2 h1 h2 h3 h4 h5 h6
  · have hne : c' ≠ c := by rintro rfl; exact h.Gown _ _ _ hv hown
    have h1 := h.G c' o2 v hv
    rw [← h1]; simp only [World.cell?, hw c' hne]
  · have hne : c' ≠ c := by rintro rfl; exact h.Mown _ _ hm hown
    obtain ⟨clock, h1⟩ := h.M c' m hm
    exact ⟨clock, by rw [hw c' hne]; exact h1⟩
  · obtain ⟨i, arr, e, h1, h2, h3, h4, h5⟩ := h.tok t (htok t ht').1
    have hne : i.c ≠ c := by rintro rfl; exact h5 hown
    exact ⟨i, arr, e, h1, by rw [hw _ hne]; exact h2, h3, h4, fun hh => h5 (howned _ hh)⟩
  · have hkb : k ≠ b := by
      rintro rfl
      have := (h.fresh k hk).1; rw [hb] at this; cases this
    obtain ⟨g1, g2, g3, g4⟩ := h.fresh k hk
    exact ⟨g1, g2, g3, by rw [hget k hkb]; exact g4⟩
end

/-- a frame of a run that began in w0 -/
structure FS (chk : Nat → List Nat → Code → ACode → Bool) (gl : Nat → List AV) (N : Nat) (B D : List Nat) (S0 : Gh) (H0 : H) (w0 : World) (S : Gh) (H : H) (Pv : Nat → Option Nat) (e : Env) (tmps : Array Value) (w : World) : Prop where
  wr : WR chk gl S H w
  fr : FR N B S Pv e tmps w
  pv : Priv S H w Pv D
  kp : Keep S0 H0 w0 S H w
  nw : ∀ k c, Pv k = some c → w0.heap.size ≤ c
  nd : ∀ d, d ∈ D → w0.heap.size ≤ d

def putT (tmps : Array Value) (d : Option Nat) (u : Value) : Array Value := match d with
  | some d => tmps.setIfInBounds d u
  | none => tmps

/-- one operation -/
def Step1 (P : Program) (chk : Nat → List Nat → Code → ACode → Bool) (gl : Nat → List AV) (N : Nat) (B D : List Nat) (S0 : Gh) (H0 : H) (w0 : World) (o : Oper) (tmps : Array Value) (w : World) (e' : Env) (H' : H) : Prop :=
  ∃ S' Pv' w' r u, (execOp (evalT tmps) o).run P w = .ok r w' ∧ (r = .value u ∨ (r = .skip ∧ u = undef)) ∧ FS chk gl N B D S0 H0 w0 S' H' Pv' e' (putT tmps o.dst u) w'

section
variable {P : Program} {chk : Nat → List Nat → Code → ACode → Bool} {gl : Nat → List AV} {p : AProg} {N : Nat} {B D : List Nat} {S0 : Gh} {H0 : H} {w0 : World} {S : Gh} {H : H} {Pv : Nat → Option Nat} {e : Env} {tmps : Array Value} {w : World} {o : Oper} {v : AV}

theorem FS.put (h : FS chk gl N B D S0 H0 w0 S H Pv e tmps w) {d : Option Nat} (hd : ∀ k, d = some k → k < N ∧ k ∉ B) {u : Value} (hr : PRes N S e tmps v u) :
    FS chk gl N B D S0 H0 w0 S H Pv (e.dst d v) (putT tmps d u) w := by
  refine ⟨h.wr, ?_, h.pv, h.kp, h.nw, h.nd⟩
  cases d with
  | none => exact h.fr
  | some k =>
    obtain ⟨h1, h2⟩ := hd k rfl
    rcases hr with hr | ⟨s, g, off, rfl, hs, hh⟩
    · exact h.fr.set h1 h2 hr.okv hr
    · exact h.fr.setPtr h1 h2 hs hh

/-- memory grows by a block that stays -/
theorem FS.newG (h : FS chk gl N B D S0 H0 w0 S H Pv e tmps w) (arr : Array Value) (el : Nat) :
    FS chk gl N B D S0 H0 w0 (S.addG w.heap.size (arr[·]?)) H Pv e tmps (w.alloc (.cells arr el (0, 0))) ∧
    ∀ i v, arr[i]? = some v → (S.addG w.heap.size (arr[·]?)).G w.heap.size i = some v := by
  have hno : ∀ {c}, own S H c → c < w.heap.size := fun ho => h.wr.own_lt ho
  have hGn : ∀ o, S.G w.heap.size o = none := h.wr.G_none (Nat.le_refl _)
  have hle : S.le (S.addG w.heap.size (arr[·]?)) := Gh.le_addG fun o v hv => by rw [hGn] at hv; cases hv
  have hk : Keep S H w (S.addG w.heap.size (arr[·]?)) H (w.alloc (.cells arr el (0, 0))) :=
    ⟨hle, by simp, fun c hc _ => heap_alloc_any w _ c hc, fun c hc ho => ho, fun c o hc _ => by simp only [Gh.addG]; rw [if_neg (by omega)], fun _ _ _ => rfl, .alloc w rfl⟩
  refine ⟨⟨?_, h.fr.keep h.pv hk, h.pv.keep hk, h.kp.trans hk, h.nw, h.nd⟩, fun i v hv => by simp [Gh.addG, hv]⟩
  refine (h.wr.alloc _).addG (fun o v hv => by rw [hGn] at hv; cases hv) (fun o v hv => ?_) fun ho => Nat.lt_irrefl _ (hno ho)
  rw [cell_of_row _ _ _ arr el (0, 0) (heap_alloc_at w _)]
  exact hv
end
end Av
end

section
/- The operations that lay or write memory. -/
namespace Av
open Go

theorem run_newVar' {P : Program} {w : World} (t : Nat) (v : Value) : (newVar t v).run P w = .ok ⟨w.heap.size, 0, none⟩ (w.alloc (.cells v.cells t (0, 0))) := by
  simp [newVar, newRow]
theorem run_newRow' {P : Program} {w : World} (t : Nat) (cs : Array Value) : (newRow t cs).run P w = .ok ⟨w.heap.size, 0, none⟩ (w.alloc (.cells cs t (0, 0))) := by
  simp [newRow]

section
variable {P : Program} {chk : Nat → List Nat → Code → ACode → Bool} {p : AProg} {N : Nat} {B D : List Nat} {S0 : Gh} {H0 : H} {w0 : World} {S : Gh} {H : H} {Pv : Nat → Option Nat} {e : Env} {tmps : Array Value} {w : World} {o : Oper} {v : AV} {wr : Option (Nat × AV)}

theorem FS.lay (h : FS chk p.glob N B D S0 H0 w0 S H Pv e tmps w) {s : Nat} (hs : s < N) (hB : s ∈ B) {cs : List AV} {arr : Array Value} {el : Nat} (hv : VRs S cs arr.toList) :
    FS chk p.glob N B D S0 H0 w0 S H (fun k => if k = s then some w.heap.size else Pv k) (e.set s (.lbox (gen e s) cs)) (tmps.setIfInBounds s (.pointer (some ⟨w.heap.size, 0, none⟩))) (w.alloc (.cells arr el (0, 0))) := by
  have hk : Keep S H w S H (w.alloc (.cells arr el (0, 0))) := .alloc _ rfl
  refine ⟨h.wr.alloc _, (h.fr.keep h.pv hk).setBox hs hB (heap_alloc_at w _) hv, ?_, h.kp.trans hk, fun k c hc => ?_, h.nd⟩
  · have hp := h.pv.keep hk
    have hn : ¬ own S H w.heap.size := fun ho => Nat.lt_irrefl _ (h.wr.own_lt ho)
    have hif : ∀ k c, (if k = s then some w.heap.size else Pv k) = some c → (k = s ∧ c = w.heap.size) ∨ (k ≠ s ∧ Pv k = some c) := by
      intro k c hc
      split at hc
      · rename_i hh; cases hc; exact .inl ⟨hh, rfl⟩
      · rename_i hh; exact .inr ⟨hh, hc⟩
    refine ⟨fun k c hc => ?_, fun k c hc => ?_, fun k c o' hc => ?_, fun k k' c hc hc' => ?_, fun k c hc => ?_, hp.df, hp.nd, fun k c hc => ?_⟩
    · rcases hif k c hc with ⟨_, rfl⟩ | ⟨_, h1⟩
      · simp
      · exact hp.lt k c h1
    · rcases hif k c hc with ⟨_, rfl⟩ | ⟨_, h1⟩
      · exact hn
      · exact hp.own k c h1
    · rcases hif k c hc with ⟨_, rfl⟩ | ⟨_, h1⟩
      · exact h.wr.G_none (Nat.le_refl _) o'
      · exact hp.G k c o' h1
    · rcases hif k c hc with ⟨h1, rfl⟩ | ⟨_, h1⟩ <;> rcases hif k' _ hc' with ⟨h2, h3⟩ | ⟨_, h2⟩
      · rw [h1, h2]
      · have := h.pv.lt k' _ h2; omega
      · subst h3; have := h.pv.lt k _ h1; omega
      · exact hp.inj k k' c h1 h2
    · rcases hif k c hc with ⟨_, rfl⟩ | ⟨_, h1⟩
      · exact h.wr.M_none (Nat.le_refl _)
      · exact hp.M k c h1
    · rcases hif k c hc with ⟨_, rfl⟩ | ⟨_, h1⟩
      · intro hd
        have := (Array.getElem?_eq_some_iff.1 (h.pv.df _ hd).1).1
        omega
      · exact hp.PD k c h1
  · by_cases hh : k = s
    · rw [if_pos hh] at hc; cases hc; exact h.kp.sz
    · rw [if_neg hh] at hc; exact h.nw k c hc

variable (h : FS chk p.glob N B D S0 H0 w0 S H Pv e tmps w)
include h

theorem m_allocL {s zs} (hd : o.dst = some s) (hsN : s < N) (hB : s ∈ B) (hc : chkP P N B o (.allocL s zs) = true) (hs : stepP p e (.allocL s zs) = some (v, wr)) :
    wr = none ∧ Step1 P chk p.glob N B D S0 H0 w0 o tmps w (e.dst o.dst v) H := by
  simp only [chkP] at hc
  split at hc
  · rename_i t ho
    simp only [Bool.and_eq_true] at hc
    obtain ⟨_, h2⟩ := hc
    simp only [stepP] at hs
    cases hs
    obtain ⟨z, hz, hv, _⟩ := zero_run (S := S) h2 w
    refine ⟨rfl, S, _, _, _, .pointer (some ⟨w.heap.size, 0, none⟩), ?_, .inl rfl, by rw [hd]; exact h.lay hsN hB (arr := z.cells) (el := t) hv⟩
    simp [execOp, ho, Instr.alloc, hz, run_newVar']
  · cases hc

theorem m_boxL {s x} (hd : o.dst = some s) (hsN : s < N) (hB : s ∈ B) (hc : chkP P N B o (.boxL s x) = true) (hs : stepP p e (.boxL s x) = some (v, wr)) :
    wr = none ∧ Step1 P chk p.glob N B D S0 H0 w0 o tmps w (e.dst o.dst v) H := by
  simp only [chkP] at hc
  split at hc
  · rename_i t y ho
    simp only [Bool.and_eq_true] at hc
    obtain ⟨_, h2⟩ := hc
    simp only [stepP] at hs
    split at hs
    · rename_i v' hx
      split at hs
      · rename_i hfl
        cases hs
        have hX := (ev_ok h.wr h.fr h2 hx).cells (flat_ne_junk hfl)
        refine ⟨rfl, S, _, _, _, .pointer (some ⟨w.heap.size, 0, none⟩), ?_, .inl rfl, by rw [hd]; exact h.lay hsN hB (arr := (evalT tmps y).cells) (el := t) hX⟩
        simp [execOp, ho, Instr.box, run_newVar']
      · cases hs
    · cases hs
  · cases hc

theorem m_storeL {s n a x} (hd : o.dst = none) (hc : chkP P N B o (.storeL s n a x) = true) (hs : stepP p e (.storeL s n a x) = some (v, wr)) :
    ∃ u, wr = some (s, u) ∧ Step1 P chk p.glob N B D S0 H0 w0 o tmps w ((e.set s u).dst o.dst v) H := by
  simp only [chkP] at hc
  split at hc
  · rename_i t k y ho
    simp only [Bool.and_eq_true, decide_eq_true_eq] at hc
    obtain ⟨⟨⟨⟨h1, h2⟩, h3⟩, h4⟩, h5⟩ := hc
    simp only [stepP] at hs
    split at hs
    · rename_i g cs xv hg hx
      split at hs
      · rename_i off hoff
        split at hs
        · rename_i hcond
          obtain ⟨hfl, hn, hl⟩ := hcond
          cases hs
          refine ⟨_, rfl, ?_⟩
          obtain ⟨c, arr, el, hPc, hsl, hheap, hV⟩ := h.fr.lb s g cs h3 hg
          have hX := ev_ok h.wr h.fr h2 hx
          have hXc := hX.cells (flat_ne_junk hfl)
          have hk := lofs_ok h.wr h.fr h3 h4 (.inl hg) h5 hoff hsl
          have hsz : arr.size = cs.length := by have := hV.1; simpa using this
          have hrun := store_run (P := P) (w := w) h1 hX hfl hn (o := off) hheap (by omega)
          have hV' := hV.splice hXc (off := off)
          generalize harr : (arr.toList.take off ++ (evalT tmps y).cells.toList ++ arr.toList.drop (off + (evalT tmps y).cells.toList.length)).toArray = arr' at hrun
          have hV'' : VRs S (splice cs off xv.cells) arr'.toList := by rw [← harr]; simpa using hV'
          have hheap' := setRow_heap w c arr arr' el (0, 0) hheap
          have hoth : ∀ b, b ≠ c → (w.setRow c arr').heap[b]? = w.heap[b]? := fun b hb => by
            unfold World.setRow; simp [Array.getElem?_modify, Ne.symm hb]
          have hsize : (w.setRow c arr').heap.size = w.heap.size := by simp [World.setRow]
          have hWR : WR chk p.glob S H (w.setRow c arr') := h.wr.frame (by omega) fun c' hc' hor => by
            refine hoth c' fun hcc => ?_
            subst hcc
            rcases hor with hor | ⟨o', ho'⟩ | hm
            · exact h.pv.own s _ hPc hor
            · exact ho' (h.pv.G s _ o' hPc)
            · exact hm (h.pv.M s _ hPc)
          refine ⟨S, Pv, w.setRow c arr', .skip, undef, ?_, .inr ⟨rfl, rfl⟩, ?_⟩
          · simp only [execOp, ho, evalT_tmp, hk, Instr.storeAt, Instr.sureAddr, Sem.run_bind, Sem.run_pure, Result.andThen_ok, hrun]
          · rw [hd]
            refine ⟨hWR, h.fr.stBox hg hPc h.pv.inj hheap' hV'' hoth, ⟨fun k' c' hc' => by rw [hsize]; exact h.pv.lt k' c' hc', h.pv.own, h.pv.G, h.pv.inj, h.pv.M, fun d hdd => ?_, h.pv.nd, h.pv.PD⟩, ?_, h.nw, h.nd⟩
            · obtain ⟨q1, q2⟩ := h.pv.df d hdd
              exact ⟨by rw [hoth d fun hh => h.pv.PD s c hPc (hh ▸ hdd)]; exact q1, q2⟩
            · refine ⟨h.kp.le, by rw [hsize]; exact h.kp.sz, fun c' hc' hno => ?_, h.kp.own, h.kp.G, h.kp.M, h.kp.sm.trans (.row w _ _)⟩
              rw [hoth c' fun hh => by have := h.nw s c hPc; omega]
              exact h.kp.old c' hc' hno
        · cases hs
      · cases hs
    · cases hs
  · cases hc
end
end Av
end

section
/- Slices that are made: literals. -/
namespace Av
open Go

/-! what is known of a slice's room may be forgotten -/
theorem VR.shut1 {S : Gh} {v u} (h : VR S v u) : VR S v.shut1 u := by
  cases h with
  | sl es k c o len cap sz us hl hz hG hV hk =>
    refine .sl es .shut c o len cap sz us hl hz hG hV ?_
    cases k with
    | exact => exact Nat.le_of_eq hk.symm
    | opn t => exact hk.2.1
    | shut => exact hk
  | slnil k hk => exact .slnil .shut (by intro t; simp)
  | bool => constructor
  | int => constructor
  | nilp => constructor
  | ptr b off c h => exact .ptr b off c h
  | cptr cs c o us hG hV => exact .cptr cs c o us hG hV
  | msl b off len sz c cap h hc ha => exact .msl b off len sz c cap h hc ha
  | mp b c h => exact .mp b c h
  | mv ks vs c ents h h1 h2 hk hv => exact .mv ks vs c ents h h1 h2 hk hv
  | nilm => constructor
  | fn f first cap vs ws h1 h2 hv hw => exact .fn f first cap vs ws h1 h2 hv hw
  | nilf => constructor
  | yld l c h => exact .yld l c h
  | agg cs vs hl hV => exact .agg cs vs hl hV
  | tup cs vs hl hV => exact .tup cs vs hl hV
  | junk => exact .junk _
theorem shuts_eq : ∀ vs, AV.shuts vs = vs.map AV.shut1
  | [] => rfl
  | v :: vs => by rw [AV.shuts, shuts_eq vs]; rfl
theorem shut2s_eq : ∀ vs, AV.shut2s vs = vs.map AV.shut2
  | [] => rfl
  | v :: vs => by rw [AV.shut2s, shut2s_eq vs]; rfl
theorem VRs.map {S : Gh} {f : AV → AV} (hf : ∀ v u, VR S v u → VR S (f v) u) {xs vs} (h : VRs S xs vs) : VRs S (xs.map f) vs := by
  refine .of (by simpa using h.1) fun i x v hx hv => ?_
  rw [List.getElem?_map] at hx
  obtain ⟨y, hy, rfl⟩ := Option.map_eq_some_iff.1 hx
  obtain ⟨u, hu, hr⟩ := h.get hy
  rw [hu] at hv; cases hv
  exact hf _ _ hr
theorem VR.shut2 {S : Gh} {v u} (h : VR S v u) : VR S v.shut2 u := by
  unfold AV.shut2
  split
  · rename_i cs
    obtain ⟨us, rfl, hV⟩ := h.agg_inv
    rw [shuts_eq]
    have := VR.agg' (hV.map fun _ _ h => h.shut1); simpa using this
  · exact h.shut1
theorem VR.shutv {S : Gh} {v u} (h : VR S v u) : VR S v.shutv u := by
  unfold AV.shutv
  split
  · rename_i cs
    obtain ⟨us, rfl, hV⟩ := h.tup_inv
    rw [shut2s_eq]
    have := VR.tup' (hV.map fun _ _ h => h.shut2); simpa using this
  · exact h.shut2
theorem shutv_cells_length (v : AV) : v.shutv.cells.length = v.cells.length := by
  cases v <;> try rfl
  simp [AV.shutv, AV.shut2, AV.cells, shuts_eq]
theorem VR.shut_cells {S : Gh} {v u} (h : VR S v u) (hj : v ≠ .junk) : VRs S v.shutv.cells u.cells.toList := h.shutv.cells (by
  cases v <;> simp [AV.shutv, AV.shut2, AV.shut1] at hj ⊢)

/-! elements, cell by cell -/
theorem flat_get {sz : Nat} : ∀ (es : List AV) (i j : Nat), (∀ e ∈ es, e.cells.length = sz) → i < es.length → j < sz → (es.flatMap AV.cells).getD (i * sz + j) .junk = (es.getD i .junk).cells.getD j .junk
  | [], i, j, _, hi, _ => by simp at hi
  | e :: es, 0, j, h, _, hj => by
    have := h e (by simp)
    simp only [List.flatMap_cons, Nat.zero_mul, Nat.zero_add, List.getD_cons_zero]
    rw [List.getD_eq_getElem?_getD, List.getElem?_append_left (by omega), ← List.getD_eq_getElem?_getD]
  | e :: es, i + 1, j, h, hi, hj => by
    have he := h e (by simp)
    simp only [List.flatMap_cons, List.getD_cons_succ]
    rw [List.getD_eq_getElem?_getD, List.getElem?_append_right (by rw [Nat.add_mul]; omega), ← List.getD_eq_getElem?_getD]
    rw [show (i + 1) * sz + j - e.cells.length = i * sz + j by rw [Nat.add_mul]; omega]
    exact flat_get es i j (fun x hx => h x (by simp [hx])) (by simpa using hi) hj
theorem flat_len {sz : Nat} : ∀ (es : List AV), (∀ e ∈ es, e.cells.length = sz) → (es.flatMap AV.cells).length = es.length * sz
  | [], _ => by simp
  | e :: es, h => by
    have := flat_len es fun x hx => h x (by simp [hx])
    rw [List.flatMap_cons, List.length_append, this, h e (by simp), List.length_cons, Nat.add_mul]; omega
theorem flat_set {sz : Nat} : ∀ (es : List AV) (i : Nat) (v : AV), (∀ e ∈ es, e.cells.length = sz) → v.cells.length = sz → i < es.length →
    (es.set i v).flatMap AV.cells = splice (es.flatMap AV.cells) (i * sz) v.cells
  | [], i, v, _, _, hi => by simp at hi
  | e :: es, 0, v, h, hv, _ => by
    have := h e (by simp)
    simp [splice, hv, List.drop_append, this]
  | e :: es, i + 1, v, h, hv, hi => by
    have he := h e (by simp)
    have ih := flat_set es i v (fun x hx => h x (by simp [hx])) hv (by simpa using hi)
    simp only [List.set_cons_succ, List.flatMap_cons, ih, splice]
    have e1 : (i + 1) * sz = e.cells.length + i * sz := by rw [Nat.add_mul]; omega
    rw [e1, List.take_append, List.drop_append]
    simp [List.take_of_length_le, Nat.add_assoc]

/-- a slice over cells that stay -/
theorem VR.mkSl {S : Gh} {es : List AV} {k : SK} {c o cap sz : Nat} {cells : List Value} (hz : ∀ e ∈ es, e.cells.length = sz) (hV : VRs S (es.flatMap AV.cells) cells)
    (hG : ∀ i v, cells[i]? = some v → S.G c (o + i) = some v) (hk : KOK S k c o es.length cap sz) : VR S (.sl es k) (.slice (some ⟨c, o, none⟩) es.length cap) := by
  have hl : cells.length = es.length * sz := by rw [hV.1, flat_len es hz]
  refine .sl es k c o es.length cap sz (fun i => cells.getD i undef) rfl hz (fun i hi => hG i _ ?_) (fun i j hi hj => ?_) hk
  · rw [List.getD_eq_getElem?_getD, List.getElem?_eq_getElem (by omega)]; rfl
  · rw [← flat_get es i j hz hi hj]
    refine hV.2 _ ?_
    rw [flat_len es hz]
    have : (i + 1) * sz ≤ es.length * sz := Nat.mul_le_mul_right _ hi
    rw [Nat.add_mul] at this; omega

section
variable {P : Program} {chk : Nat → List Nat → Code → ACode → Bool} {p : AProg} {N : Nat} {B D : List Nat} {S0 : Gh} {H0 : H} {w0 : World} {S : Gh} {H : H} {Pv : Nat → Option Nat} {e : Env} {tmps : Array Value} {w : World} {o : Oper} {v : AV} {wr : Option (Nat × AV)}

theorem elems_run (hw : WR chk p.glob S H w) (hf : FR N B S Pv e tmps w) {sz : Nat} : ∀ (parts : List (Nat × Operand)) (ps : List (Nat × Opd)) (es es' : List AV) (cells : Array Value),
    VRs S (es.flatMap AV.cells) cells.toList → (∀ a ∈ es, a.cells.length = sz) → elems p e sz es ps = some es' → chkEls N parts ps = true →
    ∃ cells', Instr.fill (fun i => some (i * sz, sz)) cells (parts.map fun q => (q.1, evalT tmps q.2)) = some cells' ∧ VRs S (es'.flatMap AV.cells) cells'.toList ∧ (∀ a ∈ es', a.cells.length = sz) ∧ es'.length = es.length
  | [], [], es, es', cells, hv, hz, h, _ => by
    simp [elems] at h; subst h
    exact ⟨cells, rfl, hv, hz, rfl⟩
  | (i, y) :: parts, (j, x) :: ps, es, es', cells, hv, hz, h, hc => by
    simp only [chkEls, Bool.and_eq_true, beq_iff_eq] at hc
    obtain ⟨⟨rfl, h2⟩, h3⟩ := hc
    unfold elems at h
    split at h
    · rename_i v hx
      split at h
      · rename_i hcond
        obtain ⟨hfl, hn, hl⟩ := hcond
        have hV := ev_ok hw hf h2 hx
        have hC := hV.shut_cells (flat_ne_junk hfl)
        have hn' : v.shutv.cells.length = sz := by rw [shutv_cells_length]; exact hn
        have hsz : (evalT tmps y).cells.size = sz := by have := hC.1; simp at this; omega
        have hcl : cells.size = es.length * sz := by have := hv.1; rw [flat_len es hz] at this; simpa using this
        have hle : i * sz + sz ≤ es.length * sz := by
          have : (i + 1) * sz ≤ es.length * sz := Nat.mul_le_mul_right _ hl
          rw [Nat.add_mul] at this; omega
        have hfold := fold_set' (i * sz) (evalT tmps y).cells cells (by omega)
        obtain ⟨cells', hr, hV', hz', hl'⟩ := elems_run hw hf parts ps _ es' _ (by
          have := hv.splice hC (off := i * sz)
          rw [← flat_set es i v.shutv hz hn' hl] at this
          rw [show (evalT tmps y).cells.toList.length = (evalT tmps y).cells.size by simp] at this
          rw [← hfold] at this
          exact this) (fun a ha => by
            rcases List.mem_or_eq_of_mem_set ha with ha | rfl
            · exact hz a ha
            · exact hn') h h3
        refine ⟨cells', ?_, hV', hz', by simpa using hl'⟩
        simp only [List.map_cons, Instr.fill]
        rw [if_neg (by simp; omega)]
        exact hr
      · cases h
    · cases h
  | [], _ :: _, _, _, _, _, _, _, hc => by simp [chkEls] at hc
  | _ :: _, [], _, _, _, _, _, _, hc => by simp [chkEls] at hc

theorem m_bslice (h : FS chk p.glob N B D S0 H0 w0 S H Pv e tmps w) {sz zs len ps} (hd : ∀ k, o.dst = some k → k < N ∧ k ∉ B) (hc : chkP P N B o (.bslice sz zs len ps) = true) (hs : stepP p e (.bslice sz zs len ps) = some (v, wr)) :
    wr = none ∧ Step1 P chk p.glob N B D S0 H0 w0 o tmps w (e.dst o.dst v) H := by
  simp only [chkP] at hc
  split at hc
  · rename_i t l parts ho
    simp only [Bool.and_eq_true, beq_iff_eq, decide_eq_true_eq] at hc
    obtain ⟨⟨⟨⟨⟨h1, rfl⟩, h2⟩, h3⟩, h4⟩, h5⟩ := hc
    split at h1
    · rename_i el hel
      obtain ⟨hu, hsz⟩ := slT_ok hel
      simp only [stepP] at hs
      split at hs
      · rename_i es hes
        cases hs
        unfold zmatch at h1
        split at h1
        · rename_i ie hie
          simp only [Bool.and_eq_true, beq_iff_eq] at h1
          obtain ⟨h1, h6⟩ := h1
          split at h1
          · rename_i z hz
            have hZ : VRs S zs z.cells.toList := cms_ok h1
            have hzl : z.cells.size = sz := by have := hZ.1; simp at this; omega
            have hie' : ie.size = sz := by omega
            generalize hz0 : unit zs = z0 at hes
            have hz0c : z0.cells = zs := by
              rw [← hz0]
              unfold unit
              split
              · rename_i z1
                have := hZ.1
                cases hzz : z.cells.toList with
                | nil => rw [hzz] at this; simp at this
                | cons a as =>
                  simp [cms, hzz] at h1
                  have h1' := h1.1
                  unfold cm1 at h1'
                  split at h1' <;> first | rfl | cases h1'
              · rfl
            have hinit : VRs S ((List.replicate l z0).flatMap AV.cells) ((Array.range (l * sz)).map fun i => z.cells[i % z.cells.size]!).toList := by
              refine .of (by rw [flat_len _ (by intro a ha; rw [List.eq_of_mem_replicate ha, hz0c, h2])]; simp) fun i x u hx hu' => ?_
              have hi : i < l * sz := by
                have := (List.getElem?_eq_some_iff.1 hu').1; simpa using this
              have hq : i = (i / sz) * sz + i % sz := by rw [Nat.mul_comm]; exact (Nat.div_add_mod i sz).symm
              have hdiv : i / sz < l := (Nat.div_lt_iff_lt_mul h3).2 hi
              have hmod : i % sz < sz := Nat.mod_lt _ h3
              have e1 := flat_get (List.replicate l z0) (i / sz) (i % sz) (sz := sz) (by intro a ha; rw [List.eq_of_mem_replicate ha, hz0c, h2]) (by simpa using hdiv) hmod
              rw [← hq, List.getD_eq_getElem?_getD, hx] at e1
              simp only [Option.getD_some] at e1
              rw [List.getD_eq_getElem?_getD (l := List.replicate l z0)] at e1
              simp [hdiv, hz0c] at e1
              simp [hi, hzl] at hu'
              subst e1; subst hu'
              have := hZ.2 (i % sz) (by omega)
              simpa [hmod, hzl, List.getD_eq_getElem?_getD] using this
            obtain ⟨cells, hfill, hV, hzs, hlen⟩ := elems_run (sz := sz) h.wr h.fr parts.toList ps _ es _ hinit (by intro a ha; rw [List.eq_of_mem_replicate ha, hz0c, h2]) hes h5
            have hl0 : es.length = l := by simpa using hlen
            have hrun : (Instr.buildSlice t l (parts.map fun q => (q.1, evalT tmps q.2))).run P w = .ok (.slice (some ⟨w.heap.size, 0, none⟩) l l) (w.alloc (.cells cells el (0, 0))) := by
              by_cases hpos : l * ie.size = 0
              · have hsz0 : l * sz = 0 := by rw [← hie']; exact hpos
                rw [hsz0] at hfill
                have hem : ∀ f : Nat → Value, (Array.range 0).map f = #[] := fun f => by apply Array.ext <;> simp
                rw [hem] at hfill
                unfold Instr.buildSlice
                rw [Sem.run_bind, run_underlying hu]
                simp only [Result.andThen_ok, Sem.run_bind, sz_run hsz, hsz0]
                simp [hem, hfill, run_newRow']
              · exact run_buildSlice w t el l _ cells ie z hu hie hz (by rw [hie']; omega) hpos (by rw [hie']; simpa using hfill)
            obtain ⟨hFS, hGG⟩ := h.newG cells el
            refine ⟨rfl, _, _, _, _, .slice (some ⟨w.heap.size, 0, none⟩) l l, ?_, .inl rfl, hFS.put hd (.inl ?_)⟩
            · simp only [execOp, ho, Sem.run_bind]
              rw [show (Array.map (fun x => match x with | (i, x) => (i, evalT tmps x)) parts) = parts.map fun q => (q.1, evalT tmps q.2) from rfl, hrun]
              rfl
            · have := VR.mkSl (S := S.addG w.heap.size (cells[·]?)) (es := es) (k := .exact) (c := w.heap.size) (o := 0) (cap := es.length) (sz := sz) (cells := cells.toList) hzs
                (hV.mono (hFS.kp.le.trans (.refl _) |> fun _ => Gh.le_addG fun o v hv => by rw [h.wr.G_none (Nat.le_refl _)] at hv; cases hv)) (fun i v hv => by rw [Nat.zero_add]; exact hGG i v (by simpa using hv)) rfl
              rw [hl0] at this
              exact this
          · cases h1
        · cases h1
      · cases hs
    · cases h1
  · cases hc
end
end Av
end

section
/- The operations on shared memory. -/
namespace Av
open Go

theorem spl_getD {α : Type} (cs new : List α) (off i : Nat) (d : α) (h : off + new.length ≤ cs.length) :
    (cs.take off ++ new ++ cs.drop (off + new.length)).getD i d = if off ≤ i ∧ i < off + new.length then new.getD (i - off) d else cs.getD i d := by
  simp only [List.getD_eq_getElem?_getD]
  by_cases h1 : i < off
  · rw [if_neg (by omega), List.append_assoc, List.getElem?_append_left (by simp; omega), List.getElem?_take, if_pos h1]
  · by_cases h2 : i < off + new.length
    · rw [if_pos ⟨by omega, h2⟩, List.append_assoc, List.getElem?_append_right (by simp; omega), List.getElem?_append_left (by simp; omega)]
      congr 3; simp; omega
    · rw [if_neg (by omega), List.getElem?_append_right (by simp; omega), List.getElem?_drop]
      congr 3; simp; omega

section
variable {chk : Nat → List Nat → Code → ACode → Bool} {gl : Nat → List AV} {S : Gh} {H : H} {w : World}

/-- a block that nobody owns is written where no cell stays -/
theorem WR.frame' (h : WR chk gl S H w) {w' : World} {c : Nat} {arr : Array Value} {el : Nat} (hc : w.heap[c]? = some (.cells arr el (0, 0))) (hsz : w'.heap.size = w.heap.size) (hw : ∀ c', c' ≠ c → w'.heap[c']? = w.heap[c']?)
    (hG : ∀ o v, S.G c o = some v → w'.cell? ⟨c, o, none⟩ = some v) (hno : ¬ own S H c) : WR chk gl S H w' := by
  refine ⟨fun b c' hb => ?_, h.inj, fun c' o v hv => ?_, h.Gown, fun c' m hm => ?_, h.Mown, fun t ht => ?_, h.tokinj, h.fresh, h.glob⟩
  · obtain ⟨h1, o, h2, h3⟩ := h.dom b c' hb
    exact ⟨by omega, o, h2, h3.mono (.refl _) rfl fun ho => hw c' fun hcc => hno (hcc ▸ .inl ⟨b, o, hb, h2, ho⟩)⟩
  · by_cases hcc : c' = c
    · subst hcc; exact hG o v hv
    · have h1 := h.G c' o v hv
      rw [← h1]; simp only [World.cell?, hw c' hcc]
  · obtain ⟨clock, h1⟩ := h.M c' m hm
    have hcc : c' ≠ c := by rintro rfl; rw [hc] at h1; cases h1
    exact ⟨clock, (hw c' hcc).trans h1⟩
  · obtain ⟨i, arr, e, h1, h2, h3, h4, h5⟩ := h.tok t ht
    exact ⟨i, arr, e, h1, by rw [hw i.c fun hcc => hno (.inr ⟨t, i, ht, h1, hcc⟩)]; exact h2, h3, h4, h5⟩

theorem WR.kill (h : WR chk gl S H w) {t : Nat} (ht : H.get t = some .tok) : WR chk gl S (H.put t .dead) w := by
  have hget : ∀ k, k ≠ t → (H.put t .dead).get k = H.get k := fun k hk => by simp [Av.H.put, hk]
  have hgett : (H.put t .dead).get t = some .dead := by simp [Av.H.put]
  have howned : ∀ c', owned S (H.put t .dead) c' → owned S H c' := by
    rintro c' ⟨k, o2, h1, h2, h3⟩
    by_cases hk : k = t
    · subst hk; rw [hgett] at h2; cases h2; cases h3
    · rw [hget k hk] at h2; exact ⟨k, o2, h1, h2, h3⟩
  have htok : ∀ t', (H.put t .dead).get t' = some .tok → H.get t' = some .tok := by
    intro t' ht'
    by_cases hk : t' = t
    · subst hk; rw [hgett] at ht'; cases ht'
    · rw [hget t' hk] at ht'; exact ht'
  refine ⟨fun k c' hk => ?_, fun k k' c' o1 o2 h1 h2 h3 h4 h5 h6 => ?_, h.G, fun c' o2 v hv hh => h.Gown c' o2 v hv (howned c' hh), h.M, fun c' m hm hh => h.Mown c' m hm (howned c' hh), fun t' ht' => ?_, fun t t' i i' h1 h2 h3 h4 h5 => h.tokinj t t' i i' (htok t h1) (htok t' h2) h3 h4 h5, fun k hk => ?_, h.glob⟩
  · obtain ⟨h1, o2, h2, h3⟩ := h.dom k c' hk
    by_cases hkb : k = t
    · subst hkb; exact ⟨h1, .dead, hgett, trivial⟩
    · exact ⟨h1, o2, by rw [hget k hkb]; exact h2, h3⟩
  · have hkb : k ≠ t := by rintro rfl; rw [hgett] at h3; cases h3; cases h4
    have hkb' : k' ≠ t := by rintro rfl; rw [hgett] at h5; cases h5; cases h6
    rw [hget k hkb] at h3; rw [hget k' hkb'] at h5
    exact h.inj k k' c' o1 o2 h1 h2 h3 h4 h5 h6
  · obtain ⟨i, arr, e, h1, h2, h3, h4, h5⟩ := h.tok t' (htok t' ht')
    exact ⟨i, arr, e, h1, h2, h3, h4, fun hh => h5 (howned _ hh)⟩
  · have hkb : k ≠ t := by
      rintro rfl
      have := (h.fresh k hk).2.2.2; rw [ht] at this; cases this
    obtain ⟨g1, g2, g3, g4⟩ := h.fresh k hk
    exact ⟨g1, g2, g3, by rw [hget k hkb]; exact g4⟩

def Gh.addT (S : Gh) (t : Nat) (i : Tok) : Gh := { S with T := fun t' => if t' = t then some i else S.T t' }
theorem Gh.le_addT {S : Gh} {t : Nat} {i : Tok} (h : S.T t = none) : S.le (S.addT t i) :=
  ⟨fun _ _ h => h, fun _ _ _ h => h, fun t' i' hi => by
    show (if t' = t then some i else S.T t') = some i'
    split
    · rename_i hh; subst hh; rw [h] at hi; cases hi
    · exact hi, fun _ _ h => h, fun _ _ h => h⟩

theorem WR.addTok (h : WR chk gl S H w) {i : Tok} {arr : Array Value} {el : Nat} (hc : w.heap[i.c]? = some (.cells arr el (0, 0))) (hce : i.ce ≤ arr.size) (hG : ∀ o v, S.G i.c o = some v → o < i.hw)
    (hno : ¬ own S H i.c) : WR chk gl (S.addT H.n i) (H.new .tok) w := by
  obtain ⟨f1, f2, f3, f4⟩ := h.fresh H.n (Nat.le_refl _)
  have hS : S.le (S.addT H.n i) := Gh.le_addT f2
  have hget : ∀ k, k ≠ H.n → (H.new .tok).get k = H.get k := fun k hk => by simp [Av.H.new, hk]
  have hgetn : (H.new .tok).get H.n = some .tok := by simp [Av.H.new]
  have howned : ∀ c', owned (S.addT H.n i) (H.new .tok) c' → owned S H c' := by
    rintro c' ⟨k, o2, h1, h2, h3⟩
    by_cases hk : k = H.n
    · subst hk; rw [hgetn] at h2; cases h2; cases h3
    · rw [hget k hk] at h2; exact ⟨k, o2, h1, h2, h3⟩
  have hT : ∀ t j, (S.addT H.n i).T t = some j → (t = H.n ∧ j = i) ∨ (t ≠ H.n ∧ S.T t = some j) := by
    intro t j hj
    simp only [Gh.addT] at hj
    split at hj
    · rename_i hh; cases hj; exact .inl ⟨hh, rfl⟩
    · rename_i hh; exact .inr ⟨hh, hj⟩
  refine ⟨fun k c' hk => ?_, fun k k' c' o1 o2 h1 h2 h3 h4 h5 h6 => ?_, h.G, fun c' o2 v hv hh => h.Gown c' o2 v hv (howned c' hh), h.M, fun c' m hm hh => h.Mown c' m hm (howned c' hh), fun t ht => ?_, fun t t' j j' h1 h2 h3 h4 h5 => ?_, fun k hk => ?_, fun g j hj => ?_⟩
  · obtain ⟨h1, o2, h2, h3⟩ := h.dom k c' hk
    have hkn : k ≠ H.n := by rintro rfl; rw [f4] at h2; cases h2
    exact ⟨h1, o2, by rw [hget k hkn]; exact h2, h3.mono hS rfl fun _ => rfl⟩
  · have hkb : k ≠ H.n := by rintro rfl; rw [hgetn] at h3; cases h3; cases h4
    have hkb' : k' ≠ H.n := by rintro rfl; rw [hgetn] at h5; cases h5; cases h6
    rw [hget k hkb] at h3; rw [hget k' hkb'] at h5
    exact h.inj k k' c' o1 o2 h1 h2 h3 h4 h5 h6
  · by_cases htn : t = H.n
    · subst htn
      exact ⟨i, arr, el, by simp [Gh.addT], hc, hce, hG, fun hh => hno (.inl (howned _ hh))⟩
    · rw [hget t htn] at ht
      obtain ⟨j, arr, e, h1, h2, h3, h4, h5⟩ := h.tok t ht
      exact ⟨j, arr, e, by simp [Gh.addT, htn, h1], h2, h3, h4, fun hh => h5 (howned _ hh)⟩
  · rcases hT t j h3 with ⟨rfl, rfl⟩ | ⟨htn, h3'⟩ <;> rcases hT t' j' h4 with ⟨rfl, rfl⟩ | ⟨htn', h4'⟩
    · rfl
    · rw [hget t' htn'] at h2
      exact absurd (.inr ⟨t', j', h2, h4', h5.symm⟩) hno
    · rw [hget t htn] at h1
      exact absurd (.inr ⟨t, j, h1, h3', h5⟩) hno
    · rw [hget t htn] at h1; rw [hget t' htn'] at h2
      exact h.tokinj t t' j j' h1 h2 h3' h4' h5
  · have hb' : H.n ≤ k := Nat.le_trans (Nat.le_succ _) hk
    have hne : k ≠ H.n := by intro hh; subst hh; exact absurd hk (Nat.not_succ_le_self _)
    obtain ⟨g1, g2, g3, g4⟩ := h.fresh k hb'
    exact ⟨g1, by simp [Gh.addT, hne, g2], g3, by rw [hget k hne]; exact g4⟩
  · obtain ⟨v, h1, h2⟩ := h.glob g j hj
    exact ⟨v, h1, h2.mono hS⟩
end

section
variable {P : Program} {chk : Nat → List Nat → Code → ACode → Bool} {gl : Nat → List AV} {p : AProg} {N : Nat} {B D : List Nat} {S0 : Gh} {H0 : H} {w0 : World} {S : Gh} {H : H} {Pv : Nat → Option Nat} {e : Env} {tmps : Array Value} {w : World} {o : Oper} {v : AV}

theorem FS.new (h : FS chk gl N B D S0 H0 w0 S H Pv e tmps w) {ao : AObj} {ob : Obj} {a : Option Nat} (ht : ao ≠ .tok) (hob : unfz ob) (hOR : OR chk (S.bind H.n w.heap.size a) (w.alloc ob) H.n w.heap.size ao) :
    FS chk gl N B D S0 H0 w0 (S.bind H.n w.heap.size a) (H.new ao) Pv e tmps (w.alloc ob) ∧ (S.bind H.n w.heap.size a).ρ H.n = some w.heap.size ∧ S.le (S.bind H.n w.heap.size a) := by
  obtain ⟨f1, f2, f3, f4⟩ := h.wr.fresh H.n (Nat.le_refl _)
  have hS : S.le (S.bind H.n w.heap.size a) := Gh.le_bind f1 f3
  have hk : Keep S H w (S.bind H.n w.heap.size a) (H.new ao) (w.alloc ob) := by
    refine ⟨hS, by simp, fun c hc _ => heap_alloc_any w _ c hc, fun c hc ho => ?_, fun _ _ _ _ => rfl, fun _ _ _ => rfl, .alloc w hob⟩
    rcases ho with ⟨b, o', h1, h2, h3⟩ | ⟨t, i, h1, h2, h3⟩
    · by_cases hb : b = H.n
      · subst hb; simp [Gh.bind] at h1; omega
      · simp [Gh.bind, hb] at h1; simp [Av.H.new, hb] at h2
        exact .inl ⟨b, o', h1, h2, h3⟩
    · by_cases hb : t = H.n
      · subst hb; simp [Av.H.new] at h1; exact absurd h1 ht
      · simp [Av.H.new, hb] at h1
        exact .inr ⟨t, i, h1, h2, h3⟩
  exact ⟨⟨h.wr.new ht hOR, h.fr.keep h.pv hk, h.pv.keep hk, h.kp.trans hk, h.nw, h.nd⟩, by simp [Gh.bind], hS⟩

theorem FS.putH (h : FS chk gl N B D S0 H0 w0 S H Pv e tmps w) {b c : Nat} {ao ao' : AObj} {w' : World} (hb : S.ρ b = some c) (hg : H.get b = some ao) (ho : ao.own = true) (ht : ao' ≠ .tok)
    (hsz : w'.heap.size = w.heap.size) (hw : ∀ c', c' ≠ c → w'.heap[c']? = w.heap[c']?) (hsm : Sm w w') (hOR : OR chk S w' b c ao') : FS chk gl N B D S0 H0 w0 S (H.put b ao') Pv e tmps w' := by
  have hk : Keep S H w S (H.put b ao') w' := by
    refine ⟨.refl _, by omega, fun c' hc hno => hw c' fun hcc => hno (hcc ▸ .inl ⟨b, ao, hb, hg, ho⟩), fun c' hc hown => ?_, fun _ _ _ _ => rfl, fun _ _ _ => rfl, hsm⟩
    rcases hown with ⟨k, o', h1, h2, h3⟩ | ⟨t, i, h1, h2, h3⟩
    · by_cases hkb : k = b
      · subst hkb; rw [hb] at h1; cases h1; exact .inl ⟨k, ao, hb, hg, ho⟩
      · simp [Av.H.put, hkb] at h2; exact .inl ⟨k, o', h1, h2, h3⟩
    · by_cases hkb : t = b
      · subst hkb; simp [Av.H.put] at h1; exact absurd h1 ht
      · simp [Av.H.put, hkb] at h1; exact .inr ⟨t, i, h1, h2, h3⟩
  exact ⟨h.wr.put hb hg ho ht hsz hw hOR, h.fr.keep h.pv hk, h.pv.keep hk, h.kp.trans hk, h.nw, h.nd⟩

variable (h : FS chk p.glob N B D S0 H0 w0 S H Pv e tmps w) (hd : ∀ k, o.dst = some k → k < N ∧ k ∉ B)
include h hd

theorem h_alloc {zs H'} (hc : chkH P N o (.alloc zs) = true) (hs : stepH p e H (.alloc zs) = some (v, H')) : Step1 P chk p.glob N B D S0 H0 w0 o tmps w (e.dst o.dst v) H' := by
  simp only [chkH] at hc
  split at hc
  · rename_i t ho
    simp only [stepH] at hs
    cases hs
    obtain ⟨z, hz, hv, _⟩ := zero_run (S := S) hc w
    obtain ⟨hFS, hρ, hle⟩ := h.new (ao := .cells zs) (ob := .cells z.cells t (0, 0)) (a := some z.cells.size) (by simp) rfl (by
      refine ⟨z.cells, t, heap_alloc_at w _, by have := hv.1; simp at this; omega, fun a ha => by simpa [Gh.bind] using ha.symm, fun i hi => ?_⟩
      have := (hv.2 i hi).mono (S' := S.bind H.n w.heap.size (some z.cells.size)) (Gh.le_bind (h.wr.fresh _ (Nat.le_refl _)).1 (h.wr.fresh _ (Nat.le_refl _)).2.2.1)
      simpa [List.getD_eq_getElem?_getD, Array.getD_eq_getD_getElem?] using this)
    refine ⟨_, _, _, _, .pointer (some ⟨w.heap.size, 0, none⟩), ?_, .inl rfl, hFS.put hd (.inl (.ptr _ _ _ hρ))⟩
    simp [execOp, ho, Instr.alloc, hz, run_newVar']
  · cases hc

theorem h_load {n agg a H'} (hc : chkH P N o (.load n agg a) = true) (hs : stepH p e H (.load n agg a) = some (v, H')) : Step1 P chk p.glob N B D S0 H0 w0 o tmps w (e.dst o.dst v) H' := by
  simp only [chkH] at hc
  split at hc
  · rename_i t y ho
    simp only [Bool.and_eq_true] at hc
    obtain ⟨h1, h2⟩ := hc
    have hn : agg = true ∨ n = 1 := by
      simp only [ldT, Bool.and_eq_true, Bool.or_eq_true, beq_iff_eq] at h1; exact h1.2
    have key : ∀ (c off off' : Nat) (cs : List AV) (us : Nat → Value) (v' : AV), evalT tmps y = .pointer (some ⟨c, off', none⟩) → part cs off n agg = some v' →
        (∀ i, off ≤ i → i < off + n → w.cell? ⟨c, off' + (i - off), none⟩ = some (us (i - off)) ∧ VR S (cs.getD i .junk) (us (i - off))) → Step1 P chk p.glob N B D S0 H0 w0 o tmps w (e.dst o.dst v') H := by
      intro c off off' cs us v' hE hp hu
      have hP := part_VR (S := S) hp (us := us) (fun i h5 h6 => (hu i h5 h6).2) hn
      have hl := load_run (P := P) (w := w) h1 (c := c) (o := off') (us := us) fun i hi => by
        have := (hu (off + i) (by omega) (by omega)).1
        rw [show off + i - off = i by omega] at this; exact this
      refine ⟨S, Pv, w, _, _, ?_, .inl rfl, h.put hd (.inl hP.1)⟩
      simp only [execOp, ho, hE, Sem.run_bind, Instr.loadAt, Instr.sureAddr, Sem.run_pure, Result.andThen_ok, hl]
    simp only [stepH] at hs
    split at hs
    · rename_i b off hv
      obtain ⟨c, hρ, hE⟩ := (ev_ok h.wr h.fr h2 hv).ptr_inv
      obtain ⟨_, ao, hg, hOR⟩ := h.wr.dom b c hρ
      have hbn : b < H.n := by
        rcases Nat.lt_or_ge b H.n with q | q
        · exact q
        · rw [if_neg (by omega)] at hs; cases hs
      rw [if_pos hbn] at hs
      split at hs
      · rename_i cs hb
        rw [hb] at hg; cases hg
        split at hs
        · rename_i v' hv'
          cases hs
          obtain ⟨arr, el, q1, q2, q3, q4⟩ := hOR
          have hl := part_len hv'
          refine key c off off cs (fun i => arr.getD (off + i) undef) _ hE hv' fun i h5 h6 => ⟨?_, ?_⟩
          · rw [cell_of_row w c _ arr el _ q1]; simp [show off + (i - off) < arr.size by omega]
          · rw [show off + (i - off) = i by omega]; exact q4 i (by omega)
        · cases hs
      · rename_i cs hb
        rw [hb] at hg; cases hg
        split at hs
        · rename_i v' hv'
          cases hs
          have hl := part_len hv'
          refine key c off off cs (fun i => (S.G c (off + i)).getD undef) _ hE hv' fun i h5 h6 => ?_
          obtain ⟨x, hx, hV⟩ := hOR i (by omega)
          rw [show off + (i - off) = i by omega, hx]
          exact ⟨h.wr.G _ _ _ hx, hV⟩
        · cases hs
      · cases hs
    · rename_i cs hv
      split at hs
      · rename_i v' hv'
        cases hs
        obtain ⟨c, o', us, hE, hG, hV⟩ := (ev_ok h.wr h.fr h2 hv).cptr_inv
        have hl := part_len hv'
        exact key c 0 o' cs us _ hE hv' fun i h5 h6 => ⟨h.wr.G _ _ _ (hG i (by omega)), hV i (by omega)⟩
      · cases hs
    · cases hs
  · cases hc

theorem h_store {n a x H'} (hn : o.dst = none) (hc : chkH P N o (.store n a x) = true) (hs : stepH p e H (.store n a x) = some (v, H')) : Step1 P chk p.glob N B D S0 H0 w0 o tmps w (e.dst o.dst v) H' := by
  simp only [chkH] at hc
  split at hc
  · rename_i t y z ho
    simp only [Bool.and_eq_true] at hc
    obtain ⟨⟨h1, h2⟩, h3⟩ := hc
    simp only [stepH] at hs
    split at hs
    · rename_i b off xv ha hx
      obtain ⟨c, hρ, hE⟩ := (ev_ok h.wr h.fr h2 ha).ptr_inv
      obtain ⟨_, ao, hg, hOR⟩ := h.wr.dom b c hρ
      split at hs
      · rename_i cs hb
        rw [hb] at hg; cases hg
        split at hs
        · rename_i hcond
          obtain ⟨hfl, hnn, hl⟩ := hcond
          cases hs
          obtain ⟨arr, el, q1, q2, q3, q4⟩ := hOR
          have hX := ev_ok h.wr h.fr h3 hx
          have hXc := hX.cells (flat_ne_junk hfl)
          have hrun := store_run (P := P) (w := w) h1 hX hfl hnn (o := off) q1 (by omega)
          have hnl : (evalT tmps z).cells.toList.length = n := by rw [hXc.1]; exact hnn
          generalize harr : (arr.toList.take off ++ (evalT tmps z).cells.toList ++ arr.toList.drop (off + (evalT tmps z).cells.toList.length)).toArray = arr' at hrun
          have hsz' : arr'.size = arr.size := by rw [← harr]; simp at hnl ⊢; omega
          have hheap' := setRow_heap w c arr arr' el (0, 0) q1
          have hoth : ∀ b, b ≠ c → (w.setRow c arr').heap[b]? = w.heap[b]? := fun b hb => by
            unfold World.setRow; simp [Array.getElem?_modify, Ne.symm hb]
          have hFS := h.putH (ao' := .cells (splice cs off xv.cells)) hρ hb rfl (by simp) (w' := w.setRow c arr') (by simp [World.setRow]) hoth (.row w _ _) (by
            refine ⟨arr', el, hheap', by rw [splice_length (by omega)]; omega, fun a ha => by rw [hsz']; exact q3 a ha, fun i hi => ?_⟩
            rw [splice_length (by omega)] at hi
            have e1 := spl_getD cs xv.cells off i .junk (by omega)
            have e2 := spl_getD arr.toList (evalT tmps z).cells.toList off i undef (by rw [hnl]; simp; omega)
            have e3 : arr'.getD i undef = arr'.toList.getD i undef := by simp [List.getD_eq_getElem?_getD, Array.getD_eq_getD_getElem?]
            rw [e3, ← harr]
            unfold splice
            rw [e1]
            rw [show (List.take off arr.toList ++ (evalT tmps z).cells.toList ++ List.drop (off + (evalT tmps z).cells.toList.length) arr.toList).toArray.toList = List.take off arr.toList ++ (evalT tmps z).cells.toList ++ List.drop (off + (evalT tmps z).cells.toList.length) arr.toList from rfl, e2, hnl, hnn]
            split
            · rename_i hh; exact hXc.2 (i - off) (by omega)
            · have := q4 i hi; simpa [List.getD_eq_getElem?_getD, Array.getD_eq_getD_getElem?] using this)
          refine ⟨S, Pv, w.setRow c arr', .skip, undef, ?_, .inr ⟨rfl, rfl⟩, by rw [hn]; exact hFS⟩
          simp only [execOp, ho, hE, Instr.storeAt, Instr.sureAddr, Sem.run_bind, Sem.run_pure, Result.andThen_ok, hrun]
        · cases hs
      · cases hs
    · cases hs
  · cases hc
end
end Av
end
