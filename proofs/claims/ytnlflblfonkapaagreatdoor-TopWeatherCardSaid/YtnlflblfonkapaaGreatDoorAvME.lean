/- Rules for contracts, and values: no condition. -/
import Derived.Test.YtnlflblfonkapaaGreatDoorAvMA
set_option linter.all false
set_option linter.unusedSectionVars false
set_option linter.unusedVariables false
set_option linter.unusedSimpArgs false
set_option linter.unnecessarySimpa false
section
/- The equations of the interpreter in the form in which they are used: what stands behind an operation is not looked at before the operation is done. -/
namespace Av
open Go (IntKind BinOp UnOp)

def obind {α β : Type} (a : Option α) (f : α → Option β) : Option β := match a with | some x => f x | none => none
@[congr] theorem obind_congr {α β : Type} {a a' : Option α} {f : α → Option β} (h : a = a') : obind a f = obind a' f := by rw [h]
@[simp] theorem obind_some {α β : Type} (x : α) (f : α → Option β) : obind (some x) f = f x := rfl
@[simp] theorem obind_none {α β : Type} (f : α → Option β) : obind none f = none := rfl

abbrev R := Option (Out × Env × H)
def oseq (a : R) (f : Env → H → R) : R := match a with
  | some (.normal, e, h) => f e h
  | some (.exit i, e, h) => some (.exit i, e, h)
  | some (.ret, e, h) => some (.ret, e, h)
  | none => none
@[congr] theorem oseq_congr {a a' : R} {f : Env → H → R} (h : a = a') : oseq a f = oseq a' f := by rw [h]
@[simp] theorem oseq_normal (e h f) : oseq (some (.normal, e, h)) f = f e h := rfl
@[simp] theorem oseq_exit (i e h f) : oseq (some (.exit i, e, h)) f = some (.exit i, e, h) := rfl
@[simp] theorem oseq_ret (e h f) : oseq (some (.ret, e, h)) f = some (.ret, e, h) := rfl
@[simp] theorem oseq_none (f) : oseq none f = none := rfl

def ocond {α : Type} (c : Option AV) (a b : Option α) : Option α := match c with
  | some (.bool true) => a
  | some (.bool false) => b
  | _ => none
@[congr] theorem ocond_congr {α : Type} {c c' : Option AV} {a b : Option α} (h : c = c') : ocond c a b = ocond c' a b := by rw [h]
@[simp] theorem ocond_true {α : Type} (a b : Option α) : ocond (some (.bool true)) a b = a := rfl
@[simp] theorem ocond_false {α : Type} (a b : Option α) : ocond (some (.bool false)) a b = b := rfl
theorem ocond_if {α : Type} (c : Bool) (a b : Option α) : ocond (some (.bool c)) a b = if c = true then a else b := by cases c <;> rfl

def oblock (i : Nat) (a : R) : R := match a with
  | some (.normal, e, h) => some (.normal, e, h)
  | some (.exit j, e, h) => if j = i then some (.normal, e, h) else some (.exit j, e, h)
  | some (.ret, e, h) => some (.ret, e, h)
  | none => none
@[simp] theorem oblock_normal (i e h) : oblock i (some (.normal, e, h)) = some (.normal, e, h) := rfl
@[simp] theorem oblock_exit (i j e h) : oblock i (some (.exit j, e, h)) = if j = i then some (.normal, e, h) else some (.exit j, e, h) := rfl
@[simp] theorem oblock_ret (i e h) : oblock i (some (.ret, e, h)) = some (.ret, e, h) := rfl
@[simp] theorem oblock_none (i) : oblock i none = none := rfl

variable (p : AProg)

theorem dseq (a b e h) : den p (.seq a b) e h = oseq (den p a e h) (fun e h => den p b e h) := by
  rw [den_seq]; rfl
theorem dcond (x a b e h) : den p (.cond x a b) e h = ocond (ev p e x) (den p a e h) (den p b e h) := by
  rw [den_cond]; rfl
theorem dblock (i c e h) : den p (.block i c) e h = oblock i (den p c e h) := by
  rw [den_block]; rfl
theorem dreg (ops e h) : den p (.reg ops) e h = obind (dops p ops e h) (fun q => some (.normal, q.1, q.2)) := by
  rw [den_reg]; cases dops p ops e h <;> rfl
theorem dloop (c e h) : den p (.loop c) e h = oseq (den p c e h) (fun e h => den p (.loop c) e h) := by
  rw [den_loop]; rfl

def eff (e : Env) (d : Option Nat) (r : AV × Option (Nat × AV)) : Env := match r with
  | (v, none) => e.dst d v
  | (v, some (s, w)) => (e.set s w).dst d v
@[simp] theorem eff_none (e : Env) (k v) : eff e (some k) (v, none) = e.set k v := rfl
@[simp] theorem eff_none' (e : Env) (v) : eff e none (v, none) = e := rfl
@[simp] theorem eff_some (e : Env) (v s w) : eff e none (v, some (s, w)) = e.set s w := rfl
theorem get_set (e : Env) (k j : Nat) (v : AV) : (e.set k v) j = if j = k then v else e j := rfl
@[simp] theorem dst_some (e : Env) (k v) : e.dst (some k) v = e.set k v := rfl
@[simp] theorem dst_none (e : Env) (v) : e.dst none v = e := rfl

/-- one operation -/
noncomputable def opd (d : Option Nat) (e : Env) (h : H) : Ins → Option (Env × H)
  | .p i => obind (stepP p e i) fun r => some (eff e d r, h)
  | .h i => obind (stepH p e h i) fun r => some (e.dst d r.1, r.2)
  | .call f args => obind (ev p e f) fun f => obind (evs p e args) fun vs => obind (dcall p f vs h) fun r => some (e.dst d r.1, r.2)
  | .calli f args => obind (ev p e f) fun f => obind (evs p e args) fun vs => obind (icall p f (vs.map AV.shutv)) fun v => some (e.dst d v, h)
  | .callf f args => obind (ev p e f) fun f => obind (evs p e args) fun vs => obind (icall p f (vs.map (frz2 h))) fun v => some (e.dst d v, frzH h (vs.flatMap fids))

def oguard {α : Type} (v : AV) (w : Bool) (a b : Option α) : Option α := match v with
  | .bool c => if c = w then a else b
  | .tup [] => b
  | _ => none
@[congr] theorem oguard_congr {α : Type} {c c' : AV} {w : Bool} {a b : Option α} (h : c = c') : oguard c w a b = oguard c' w a b := by rw [h]
@[simp] theorem oguard_tt {α : Type} (a b : Option α) : oguard (.bool true) true a b = a := rfl
@[simp] theorem oguard_ff {α : Type} (a b : Option α) : oguard (.bool false) false a b = a := rfl
@[simp] theorem oguard_tf {α : Type} (a b : Option α) : oguard (.bool true) false a b = b := rfl
@[simp] theorem oguard_ft {α : Type} (a b : Option α) : oguard (.bool false) true a b = b := rfl
@[simp] theorem oguard_un {α : Type} (w) (a b : Option α) : oguard (.tup []) w a b = b := rfl

theorem dcons (d i os e h) : dops p (⟨d, i, none⟩ :: os) e h = obind (opd p d e h i) fun q => dops p os q.1 q.2 := by
  rw [dops_cons]
  simp only [wantedA]
  cases i with
  | p i =>
    simp only [opd]
    cases stepP p e i with
    | none => rfl
    | some r =>
      obtain ⟨v, w⟩ := r
      cases w with
      | none => rfl
      | some w => rfl
  | h i => simp only [opd]; cases stepH p e h i <;> rfl
  | call f args =>
    simp only [opd]
    cases ev p e f with
    | none => rfl
    | some f =>
      cases evs p e args with
      | none => rfl
      | some vs =>
        simp only [obind_some]
        cases dcall p f vs h <;> rfl
  | calli f args =>
    simp only [opd]
    cases ev p e f with
    | none => rfl
    | some f =>
      cases evs p e args with
      | none => rfl
      | some vs =>
        simp only [obind_some]
        cases icall p f (vs.map AV.shutv) <;> rfl
  | callf f args =>
    simp only [opd]
    cases ev p e f with
    | none => rfl
    | some f =>
      cases evs p e args with
      | none => rfl
      | some vs =>
        simp only [obind_some]
        cases icall p f (vs.map (frz2 h)) <;> rfl

theorem dguard (d i s w os e h) : dops p (⟨d, i, some (s, w)⟩ :: os) e h =
    oguard (e s) w (dops p (⟨d, i, none⟩ :: os) e h) (dops p os (e.dst d (.tup [])) h) := by
  rw [dops_cons, dops_cons]
  simp only [wantedA]
  cases hs : e s with
  | bool b =>
    cases b <;> cases w <;> rfl
  | tup vs => cases vs <;> rfl
  | _ => rfl

/-- a function's call -/
def ores (a : R) (f : Env → H → Option (AV × H)) : Option (AV × H) := match a with
  | some (.normal, e, h) => f e h
  | some (.ret, e, h) => f e h
  | _ => none
@[congr] theorem ores_congr {a a' : R} {f} (h : a = a') : ores a f = ores a' f := by rw [h]
@[simp] theorem ores_normal (e h f) : ores (some (.normal, e, h)) f = f e h := rfl
@[simp] theorem ores_ret (e h f) : ores (some (.ret, e, h)) f = f e h := rfl
@[simp] theorem ores_none (f) : ores none f = none := rfl

theorem dcallf (f first cap args h F) (hf : p.fn f = some F) (hn : (first ++ args ++ cap).length = F.nargs) :
    dcall p (.fn f first cap) args h = ores (den p F.body (init (first ++ args ++ cap)) h) fun e h => obind (results p F e h) fun v => some (v, h) := by
  rw [dcall_fn, hf]
  simp only [hn, if_true]
  cases den p F.body (init (first ++ args ++ cap)) h with
  | none => rfl
  | some q =>
    obtain ⟨o, e, h⟩ := q
    cases o with
    | exit i => rfl
    | _ => simp only [ores]; cases results p F e h <;> rfl

theorem icall_of {f vs v w h} (hf : f.clean = true) (hv : cleans vs = true) (hc : dcall p f vs H.emp = some (v, h)) (hw : frz3 h v = w) (hcw : w.clean = true) : icall p f vs = some w := by
  unfold icall
  rw [hf, hv, hc]
  subst hw
  simp [hcw]

theorem rd_one (F : AFn) (e h r) (hr : F.res = [r]) : results p F e h = rdRes p e h r := by
  unfold results
  rw [hr]
  simp only [rdRess]
  cases rdRes p e h r <;> rfl
theorem rd_two (F : AFn) (e h r s) (hr : F.res = [r, s]) : results p F e h = obind (rdRes p e h r) fun v => obind (rdRes p e h s) fun w => some (.tup [v, w]) := by
  unfold results
  rw [hr]
  simp only [rdRess]
  cases rdRes p e h r <;> cases rdRes p e h s <;> rfl
end Av
end

section
/- The operations of the interpreter as equations for the simplifier, and how contracts of functions, loops and ranges are shown. -/
namespace Av
open Go (IntKind BinOp UnOp)

def evt : AV → Option AV
  | .fbox _ cs => some (.cptr cs)
  | v => if v.okv then some v else none
@[simp] theorem evt_int (k n) : evt (.int k n) = some (.int k n) := rfl
@[simp] theorem evt_bool (b) : evt (.bool b) = some (.bool b) := rfl
@[simp] theorem evt_agg (b) : evt (.agg b) = some (.agg b) := rfl
@[simp] theorem evt_tup (b) : evt (.tup b) = some (.tup b) := rfl
@[simp] theorem evt_sl (b k) : evt (.sl b k) = some (.sl b k) := rfl
@[simp] theorem evt_msl (a b c d) : evt (.msl a b c d) = some (.msl a b c d) := rfl
@[simp] theorem evt_ptr (b k) : evt (.ptr b k) = some (.ptr b k) := rfl
@[simp] theorem evt_cptr (b) : evt (.cptr b) = some (.cptr b) := rfl
@[simp] theorem evt_fbox (b k) : evt (.fbox b k) = some (.cptr k) := rfl
@[simp] theorem evt_fn (a b c) : evt (.fn a b c) = some (.fn a b c) := rfl
@[simp] theorem evt_mp (a) : evt (.mp a) = some (.mp a) := rfl
@[simp] theorem evt_mv (a b) : evt (.mv a b) = some (.mv a b) := rfl
@[simp] theorem evt_nilp : evt .nilp = some .nilp := rfl
@[simp] theorem evt_nilm : evt .nilm = some .nilm := rfl
@[simp] theorem evt_nilf : evt .nilf = some .nilf := rfl
@[simp] theorem evt_yld (l) : evt (.yld l) = some (.yld l) := rfl
@[simp] theorem evt_lptr (a b c) : evt (.lptr a b c) = none := rfl

def evf : AV → AV
  | .fbox _ cs => .cptr cs
  | v => v
variable (p : AProg)
@[simp] theorem evr_t (e n) : evr p e (.t n) = evf (e n) := by
  unfold evr evf; dsimp only; cases e n <;> rfl
@[simp] theorem ev_t (e n) : ev p e (.t n) = evt (e n) := by
  unfold ev
  rw [evr_t]
  cases e n <;> rfl
@[simp] theorem ev_int (e k n) : ev p e (.c (.int k n)) = some (.int k n) := rfl
@[simp] theorem ev_bool (e b) : ev p e (.c (.bool b)) = some (.bool b) := rfl
@[simp] theorem ev_sl (e b k) : ev p e (.c (.sl b k)) = some (.sl b k) := rfl
@[simp] theorem ev_agg (e b) : ev p e (.c (.agg b)) = some (.agg b) := rfl
@[simp] theorem ev_nilf (e) : ev p e (.c .nilf) = some .nilf := rfl
@[simp] theorem ev_nilp (e) : ev p e (.c .nilp) = some .nilp := rfl
@[simp] theorem ev_nilm (e) : ev p e (.c .nilm) = some .nilm := rfl
@[simp] theorem ev_g (e n) : ev p e (.g n) = some (.cptr (p.glob n)) := rfl
@[simp] theorem ev_f (e n) : ev p e (.f n) = some (.fn n [] []) := rfl
@[simp] theorem evs_nil (e) : evs p e [] = some [] := rfl
def econs : Option AV → Option (List AV) → Option (List AV)
  | some v, some vs => some (v :: vs)
  | _, _ => none
@[simp] theorem econs_some (v vs) : econs (some v) (some vs) = some (v :: vs) := rfl
@[simp] theorem evs_cons (e x xs) : evs p e (x :: xs) = econs (ev p e x) (evs p e xs) := by
  rw [evs]; cases ev p e x <;> cases evs p e xs <;> rfl
@[simp] theorem get_set' (e : Env) (k j : Nat) (v : AV) : (e.set k v) j = if j = k then v else e j := rfl
@[simp] theorem init_get (args : List AV) (j : Nat) : init args j = args.getD j (.tup []) := rfl

abbrev SR := Option (AV × Option (Nat × AV))
/-- a value alone -/
def ov : Option AV → SR
  | some v => some (v, none)
  | none => none
@[simp] theorem ov_some (v) : ov (some v) = some (v, none) := rfl
@[simp] theorem s_mov (e x) : stepP p e (.mov x) = ov (ev p e x) := by
  rw [stepP]; cases ev p e x <;> rfl
def opick : Option AV → Option AV → Option AV → SR
  | some (.bool true), a, _ => ov a
  | some (.bool false), _, b => ov b
  | _, _, _ => none
@[simp] theorem opick_t (a b) : opick (some (.bool true)) a b = ov a := rfl
@[simp] theorem opick_f (a b) : opick (some (.bool false)) a b = ov b := rfl
@[simp] theorem s_pick (e c a b) : stepP p e (.pick c a b) = opick (ev p e c) (ev p e a) (ev p e b) := by
  rw [stepP, opick.eq_def]
  split
  · cases ev p e a <;> simp_all [ov]
  · cases ev p e b <;> simp_all [ov]
  · split <;> simp_all
@[simp] theorem s_allocL (e s zs) : stepP p e (.allocL s zs) = some (.lbox (gen e s) zs, none) := rfl
def oboxL (g : Nat) : Option AV → SR
  | some v => if v.flats then some (.lbox g v.cells, none) else none
  | none => none
@[simp] theorem oboxL_s (g v) : oboxL g (some v) = if v.flats then some (.lbox g v.cells, none) else none := rfl
@[simp] theorem s_boxL (e s x) : stepP p e (.boxL s x) = oboxL (gen e s) (ev p e x) := by
  rw [stepP]; cases ev p e x <;> rfl
def oagg : Option (List AV) → SR
  | some cs => some (.agg cs, none)
  | none => none
@[simp] theorem oagg_s (cs) : oagg (some cs) = some (.agg cs, none) := rfl
@[simp] theorem s_build (e zs ps) : stepP p e (.build zs ps) = oagg (fill p e zs ps) := by
  rw [stepP]; cases fill p e zs ps <;> rfl
def oxs : Option (List AV) → SR
  | some cs => some (.sl cs .exact, none)
  | none => none
@[simp] theorem oxs_s (cs) : oxs (some cs) = some (.sl cs .exact, none) := rfl
@[simp] theorem s_bslice (e sz zs len ps) : stepP p e (.bslice sz zs len ps) = oxs (elems p e sz (List.replicate len (unit zs)) ps) := by
  rw [stepP]; cases elems p e sz (List.replicate len (unit zs)) ps <;> rfl
def oboxg (s off : Nat) : AV → SR
  | .lbox g _ | .fbox g _ => some (.lptr s g off, none)
  | _ => none
@[simp] theorem oboxg_l (s off g cs) : oboxg s off (.lbox g cs) = some (.lptr s g off, none) := rfl
@[simp] theorem oboxg_f (s off g cs) : oboxg s off (.fbox g cs) = some (.lptr s g off, none) := rfl
@[simp] theorem s_lad (e s off) : stepP p e (.lad s off) = oboxg s off (e s) := by
  rw [stepP, oboxg.eq_def]; cases e s <;> rfl
def oladi (s len sz : Nat) (b : AV) (i : Option AV) : SR := match b, i with
  | .lbox g _, some (.int _ i) | .fbox g _, some (.int _ i) => if 0 ≤ i ∧ i < len then some (.lptr s g (i.toNat * sz), none) else none
  | _, _ => none
@[simp] theorem oladi_l (s len sz g cs k i) : oladi s len sz (.lbox g cs) (some (.int k i)) = if 0 ≤ i ∧ i < len then some (.lptr s g (i.toNat * sz), none) else none := rfl
@[simp] theorem oladi_f (s len sz g cs k i) : oladi s len sz (.fbox g cs) (some (.int k i)) = if 0 ≤ i ∧ i < len then some (.lptr s g (i.toNat * sz), none) else none := rfl
@[simp] theorem s_ladi (e s len sz i) : stepP p e (.ladi s len sz i) = oladi s len sz (e s) (ev p e i) := by
  rw [stepP]
  cases hi : ev p e i with
  | none => cases e s <;> rfl
  | some v => cases e s <;> cases v <;> rfl

def ofaddr (off : Nat) : AV → SR
  | .ptr b o => some (.ptr b (o + off), none)
  | .cptr cs => if off ≤ cs.length then some (.cptr (cs.drop off), none) else none
  | .lptr s g o => some (.lptr s g (o + off), none)
  | _ => none
@[simp] theorem ofaddr_p (off b o) : ofaddr off (.ptr b o) = some (.ptr b (o + off), none) := rfl
@[simp] theorem ofaddr_c (off cs) : ofaddr off (.cptr cs) = if off ≤ cs.length then some (.cptr (cs.drop off), none) else none := rfl
@[simp] theorem ofaddr_l (off s g o) : ofaddr off (.lptr s g o) = some (.lptr s g (o + off), none) := rfl
@[simp] theorem evf_f (g cs) : evf (.fbox g cs) = .cptr cs := rfl
@[simp] theorem evf_p (b o) : evf (.ptr b o) = .ptr b o := rfl
@[simp] theorem evf_c (cs) : evf (.cptr cs) = .cptr cs := rfl
@[simp] theorem evf_l (s g o) : evf (.lptr s g o) = .lptr s g o := rfl
@[simp] theorem evf_s (es k) : evf (.sl es k) = .sl es k := rfl
@[simp] theorem evf_m (a b c d) : evf (.msl a b c d) = .msl a b c d := rfl
@[simp] theorem evr_g (e n) : evr p e (.g n) = .cptr (p.glob n) := rfl
@[simp] theorem s_faddr (e off a) : stepP p e (.faddr off a) = ofaddr off (evr p e a) := by
  rw [stepP, ofaddr.eq_def]; cases evr p e a <;> rfl
def oelem (sz : Nat) : Option AV → SR
  | some v => if v.cells.length = sz then some (.cptr v.cells, none) else none
  | none => none
@[simp] theorem oelem_s (sz v) : oelem sz (some v) = if v.cells.length = sz then some (.cptr v.cells, none) else none := rfl
def oiaddr (arr : Option Nat) (sz : Nat) (x : AV) (i : Option AV) : SR := match i with
  | some (.int _ i) => match arr, x with
      | some len, .ptr b o => if 0 ≤ i ∧ i < len then some (.ptr b (o + i.toNat * sz), none) else none
      | some len, .cptr cs => if 0 ≤ i ∧ i < len ∧ i.toNat * sz ≤ cs.length then some (.cptr (cs.drop (i.toNat * sz)), none) else none
      | some len, .lptr s g o => if 0 ≤ i ∧ i < len then some (.lptr s g (o + i.toNat * sz), none) else none
      | none, .sl es _ => if 0 ≤ i then oelem sz es[i.toNat]? else none
      | none, .msl b o len sz' => if 0 ≤ i ∧ i < len ∧ sz' = sz then some (.ptr b (o + i.toNat * sz), none) else none
      | _, _ => none
  | _ => none
@[simp] theorem oiaddr_l (len sz s g o k i) : oiaddr (some len) sz (.lptr s g o) (some (.int k i)) = if 0 ≤ i ∧ i < len then some (.lptr s g (o + i.toNat * sz), none) else none := rfl
@[simp] theorem oiaddr_p (len sz b o k i) : oiaddr (some len) sz (.ptr b o) (some (.int k i)) = if 0 ≤ i ∧ i < len then some (.ptr b (o + i.toNat * sz), none) else none := rfl
@[simp] theorem oiaddr_c (len sz cs k i) : oiaddr (some len) sz (.cptr cs) (some (.int k i)) = if 0 ≤ i ∧ i < len ∧ i.toNat * sz ≤ cs.length then some (.cptr (cs.drop (i.toNat * sz)), none) else none := rfl
@[simp] theorem oiaddr_m (sz b o len sz' k i) : oiaddr none sz (.msl b o len sz') (some (.int k i)) = if 0 ≤ i ∧ i < len ∧ sz' = sz then some (.ptr b (o + i.toNat * sz), none) else none := rfl
@[simp] theorem oiaddr_s (sz es k k' i) : oiaddr none sz (.sl es k) (some (.int k' i)) = if 0 ≤ i then oelem sz es[i.toNat]? else none := rfl
@[simp] theorem s_iaddr (e arr sz x i) : stepP p e (.iaddr arr sz x i) = oiaddr arr sz (evr p e x) (ev p e i) := by
  rw [stepP]
  cases ev p e i with
  | none => rfl
  | some v => cases v <;> first | rfl | (cases arr <;> cases evr p e x <;> first | rfl | (simp only [oiaddr]; split <;> first | rfl | (split <;> simp_all [oelem])))
/-- the address in a box: its begin, or an address that is held -/
def lad (e : Env) : Option Opd → Option AV
  | none => none
  | some (.t n) => some (e n)
  | some _ => some .junk
@[simp] theorem lad_none (e) : lad e none = none := rfl
@[simp] theorem lad_t (e n) : lad e (some (.t n)) = some (e n) := rfl
def olofs (s g : Nat) : Option AV → Option Nat
  | none => some 0
  | some (.lptr s' g' off) => if s' = s ∧ g' = g then some off else none
  | some _ => none
theorem lofs_lad (e s g a) : lofs e s g a = olofs s g (lad e a) := by
  cases a with
  | none => rfl
  | some x =>
    cases x with
    | t n => rw [lofs, lad, olofs.eq_def]; cases e n <;> rfl
    | _ => rfl
def opart (cs : List AV) (n : Nat) (agg : Bool) : Option Nat → SR
  | some off => ov (part cs off n agg)
  | none => none
def oloadL (s n : Nat) (agg : Bool) : AV → Option AV → SR
  | .lbox g cs, a | .fbox g cs, a => opart cs n agg (olofs s g a)
  | _, _ => none
@[simp] theorem oloadL_l0 (s n agg g cs) : oloadL s n agg (.lbox g cs) none = ov (part cs 0 n agg) := rfl
@[simp] theorem oloadL_f0 (s n agg g cs) : oloadL s n agg (.fbox g cs) none = ov (part cs 0 n agg) := rfl
@[simp] theorem oloadL_l (s n agg g cs s' g' off) : oloadL s n agg (.lbox g cs) (some (.lptr s' g' off)) = if s' = s ∧ g' = g then ov (part cs off n agg) else none := by
  simp only [oloadL, olofs]; split <;> rfl
@[simp] theorem oloadL_f (s n agg g cs s' g' off) : oloadL s n agg (.fbox g cs) (some (.lptr s' g' off)) = if s' = s ∧ g' = g then ov (part cs off n agg) else none := by
  simp only [oloadL, olofs]; split <;> rfl
@[simp] theorem s_loadL (e s n agg a) : stepP p e (.loadL s n agg a) = oloadL s n agg (e s) (lad e a) := by
  rw [stepP]
  cases e s with
  | lbox g cs => simp only [oloadL, lofs_lad]; cases olofs s g (lad e a) with
    | none => rfl
    | some off => simp only [opart]; cases part cs off n agg <;> rfl
  | fbox g cs => simp only [oloadL, lofs_lad]; cases olofs s g (lad e a) with
    | none => rfl
    | some off => simp only [opart]; cases part cs off n agg <;> rfl
  | _ => rfl
def ostoreL (s n : Nat) : Option AV → AV → Option AV → SR
  | some v, .lbox g cs, a => match olofs s g a with
    | some off => if v.flats = true ∧ v.cells.length = n ∧ off + n ≤ cs.length then some (.tup [], some (s, .lbox g (splice cs off v.cells))) else none
    | none => none
  | _, _, _ => none
@[simp] theorem ostoreL_0 (s n v g cs) : ostoreL s n (some v) (.lbox g cs) none = if v.flats = true ∧ v.cells.length = n ∧ 0 + n ≤ cs.length then some (.tup [], some (s, .lbox g (splice cs 0 v.cells))) else none := rfl
@[simp] theorem ostoreL_l (s n v g cs s' g' off) : ostoreL s n (some v) (.lbox g cs) (some (.lptr s' g' off)) = if s' = s ∧ g' = g then (if v.flats = true ∧ v.cells.length = n ∧ off + n ≤ cs.length then some (.tup [], some (s, .lbox g (splice cs off v.cells))) else none) else none := by
  simp only [ostoreL, olofs]
  by_cases h : s' = s ∧ g' = g
  · rw [if_pos h, if_pos h]
  · rw [if_neg h, if_neg h]
@[simp] theorem s_storeL (e s n a x) : stepP p e (.storeL s n a x) = ostoreL s n (ev p e x) (e s) (lad e a) := by
  rw [stepP]
  cases ev p e x with
  | none => cases e s <;> rfl
  | some v =>
    cases e s with
    | lbox g cs => simp only [ostoreL, lofs_lad]; cases olofs s g (lad e a) <;> rfl
    | _ => rfl
def oloadC (n : Nat) (agg : Bool) : Option AV → SR
  | some (.cptr cs) => ov (part cs 0 n agg)
  | _ => none
@[simp] theorem oloadC_c (n agg cs) : oloadC n agg (some (.cptr cs)) = ov (part cs 0 n agg) := rfl
@[simp] theorem s_loadC (e n agg a) : stepP p e (.loadC n agg a) = oloadC n agg (ev p e a) := by
  rw [stepP]
  cases ev p e a with
  | none => rfl
  | some v =>
    cases v with
    | cptr cs => simp only [oloadC]; cases part cs 0 n agg <;> rfl
    | _ => rfl
def ofound (z : AV) : Option (Option AV) → SR
  | some (some v) => some (v, none)
  | some none => some (z, none)
  | none => none
@[simp] theorem ofound_s (z v) : ofound z (some (some v)) = some (v, none) := rfl
@[simp] theorem ofound_n (z) : ofound z (some none) = some (z, none) := rfl
def olookup (n : Nat) (z : AV) : Option AV → Option AV → SR
  | some (.mv ks vs), some k => if keyLen n k then ofound z (findv n k ks vs) else none
  | _, _ => none
@[simp] theorem olookup_m (n z ks vs k) : olookup n z (some (.mv ks vs)) (some k) = if keyLen n k then ofound z (findv n k ks vs) else none := rfl
@[simp] theorem s_lookupV (e n z m k) : stepP p e (.lookupV n z m k) = olookup n z (ev p e m) (ev p e k) := by
  rw [stepP]
  cases ev p e m with
  | none => rfl
  | some m =>
    cases ev p e k with
    | none => cases m <;> rfl
    | some k =>
      cases m with
      | mv ks vs =>
        simp only [olookup]
        split
        · cases findv n k ks vs with
          | none => rfl
          | some r => cases r <;> rfl
        · rfl
      | _ => rfl
def obin (op : BinOp) : Option AV → Option AV → SR
  | some v, some w => ov (bin op v w)
  | _, _ => none
@[simp] theorem obin_s (op v w) : obin op (some v) (some w) = ov (bin op v w) := rfl
@[simp] theorem s_bin (e op x y) : stepP p e (.bin op x y) = obin op (ev p e x) (ev p e y) := by
  rw [stepP]
  cases ev p e x with
  | none => rfl
  | some v => cases ev p e y with
    | none => rfl
    | some w => simp only [obin]; cases bin op v w <;> rfl
def obneg (neg : Bool) : Option Bool → SR
  | some b => some (.bool (if neg then !b else b), none)
  | none => none
@[simp] theorem obneg_t (b) : obneg true (some b) = some (.bool !b, none) := rfl
@[simp] theorem obneg_f (b) : obneg false (some b) = some (.bool b, none) := rfl
def oeqn (k : Option Nat) (neg : Bool) : Option AV → Option AV → SR
  | some v, some w => obneg neg (eqk k v w)
  | _, _ => none
@[simp] theorem oeqn_s (k neg v w) : oeqn k neg (some v) (some w) = obneg neg (eqk k v w) := rfl
@[simp] theorem s_eqn (e k neg x y) : stepP p e (.eqn k neg x y) = oeqn k neg (ev p e x) (ev p e y) := by
  rw [stepP]
  cases ev p e x with
  | none => rfl
  | some v => cases ev p e y with
    | none => rfl
    | some w => simp only [oeqn]; cases eqk k v w <;> rfl
def oun (op : UnOp) : Option AV → SR
  | some v => ov (un op v)
  | none => none
@[simp] theorem oun_s (op v) : oun op (some v) = ov (un op v) := rfl
@[simp] theorem s_un (e op x) : stepP p e (.un op x) = oun op (ev p e x) := by
  rw [stepP]
  cases ev p e x with
  | none => rfl
  | some v => simp only [oun]; cases un op v <;> rfl
def oindex (len sz : Nat) (agg : Bool) : Option AV → Option AV → SR
  | some (.agg cs), some (.int _ i) => if 0 ≤ i ∧ i < len then ov (part cs (i.toNat * sz) sz agg) else none
  | _, _ => none
@[simp] theorem oindex_a (len sz agg cs k i) : oindex len sz agg (some (.agg cs)) (some (.int k i)) = if 0 ≤ i ∧ i < len then ov (part cs (i.toNat * sz) sz agg) else none := rfl
@[simp] theorem s_index (e len sz agg x i) : stepP p e (.index len sz agg x i) = oindex len sz agg (ev p e x) (ev p e i) := by
  rw [stepP]
  cases ev p e x with
  | none => rfl
  | some v => cases ev p e i with
    | none => cases v <;> rfl
    | some w =>
      cases v with
      | agg cs =>
        cases w with
        | int k i => simp only [oindex]; split <;> first | rfl | (cases part cs (i.toNat * sz) sz agg <;> rfl)
        | _ => rfl
      | _ => cases w <;> rfl
def ofield (off n : Nat) (agg : Bool) : Option AV → SR
  | some (.agg cs) => ov (part cs off n agg)
  | _ => none
@[simp] theorem ofield_a (off n agg cs) : ofield off n agg (some (.agg cs)) = ov (part cs off n agg) := rfl
@[simp] theorem s_field (e off n agg x) : stepP p e (.field off n agg x) = ofield off n agg (ev p e x) := by
  rw [stepP]
  cases ev p e x with
  | none => rfl
  | some v =>
    cases v with
    | agg cs => simp only [ofield]; cases part cs off n agg <;> rfl
    | _ => rfl
def omkfn (f : Nat) : Option (List AV) → Option (List AV) → SR
  | some a, some b => some (.fn f a b, none)
  | _, _ => none
@[simp] theorem omkfn_s (f a b) : omkfn f (some a) (some b) = some (.fn f a b, none) := rfl
@[simp] theorem s_mkfn (e f first cap) : stepP p e (.mkfn f first cap) = omkfn f (evs p e first) (evs p e cap) := by
  rw [stepP]
  cases evs p e first with
  | none => rfl
  | some v => cases evs p e cap <;> rfl
def oextract (i : Nat) : Option AV → SR
  | some (.tup vs) => ov vs[i]?
  | _ => none
@[simp] theorem oextract_t (i vs) : oextract i (some (.tup vs)) = ov vs[i]? := rfl
@[simp] theorem s_extract (e x i) : stepP p e (.extract x i) = oextract i (ev p e x) := by
  rw [stepP]
  cases ev p e x with
  | none => rfl
  | some v =>
    cases v with
    | tup vs => simp only [oextract]; cases vs[i]? <;> rfl
    | _ => rfl
def olen : Option AV → SR
  | some (.sl es _) => some (.int .i64 es.length, none)
  | some (.msl _ _ len _) => some (.int .i64 len, none)
  | _ => none
@[simp] theorem olen_s (es k) : olen (some (.sl es k)) = some (.int .i64 es.length, none) := rfl
@[simp] theorem olen_m (a b c d) : olen (some (.msl a b c d)) = some (.int .i64 c, none) := rfl
@[simp] theorem s_len (e x) : stepP p e (.len x) = olen (ev p e x) := by
  rw [stepP]
  cases ev p e x with
  | none => rfl
  | some v => cases v <;> rfl
def omn : Option (List AV) → SR
  | some vs => ov (mmI (fun a b => if b < a then b else a) vs)
  | none => none
def omx' : Option (List AV) → SR
  | some vs => ov (mmI (fun a b => if b > a then b else a) vs)
  | none => none
@[simp] theorem omn2 (a b) : omn (some [.int .i64 a, .int .i64 b]) = some (.int .i64 (min a b), none) := by
  simp only [omn, mmI, List.foldl, if_true, Option.map, ov_some]
  congr 3
  rw [Int.min_def]; split <;> split <;> omega
@[simp] theorem omx2 (a b) : omx' (some [.int .i64 a, .int .i64 b]) = some (.int .i64 (max a b), none) := by
  simp only [omx', mmI, List.foldl, if_true, Option.map, ov_some]
  congr 3
  rw [Int.max_def]; split <;> split <;> omega
@[simp] theorem s_mn (e xs) : stepP p e (.mn xs) = omn (evs p e xs) := by
  rw [stepP]
  cases evs p e xs with
  | none => rfl
  | some v => simp only [omn]; cases mmI (fun a b => if b < a then b else a) v <;> rfl
@[simp] theorem s_mx (e xs) : stepP p e (.mx xs) = omx' (evs p e xs) := by
  rw [stepP]
  cases evs p e xs with
  | none => rfl
  | some v => simp only [omx']; cases mmI (fun a b => if b > a then b else a) v <;> rfl
/-- an end that is given, or is not -/
def onv (e : Env) : Option Opd → Option (Option AV)
  | none => none
  | some x => some (ev p e x)
@[simp] theorem onv_none (e) : onv p e none = none := rfl
@[simp] theorem onv_some (e x) : onv p e (some x) = some (ev p e x) := rfl
def ocut (es : List AV) : Option Nat → Option Nat → Option (Option Nat) → SR
  | some l, some h, some m => ov (cut es l h m)
  | _, _, _ => none
def natD (d : Nat) : Option (Option AV) → Option Nat
  | none => some d
  | some (some v) => natOf v
  | some none => none
@[simp] theorem natD_n (d) : natD d none = some d := rfl
@[simp] theorem natD_s (d k n) : natD d (some (some (.int k n))) = if 0 ≤ n then some n.toNat else none := rfl
def natM : Option (Option AV) → Option (Option Nat)
  | none => some none
  | some (some v) => (match natOf v with | some n => some (some n) | none => none)
  | some none => none
@[simp] theorem natM_n : natM none = some none := rfl
@[simp] theorem natM_s (k n) : natM (some (some (.int k n))) = if 0 ≤ n then some (some n.toNat) else none := by
  simp only [natM, natOf]; by_cases h : 0 ≤ n <;> simp [h]
def oslice (sz : Nat) (l h m : Option (Option AV)) : Option AV → SR
  | some (.sl es _) => if es.all (fun v => decide (v.cells.length = sz)) then ocut es (natD 0 l) (natD es.length h) (natM m) else none
  | _ => none
@[simp] theorem s_slice (e sz x lo hi mx) : stepP p e (.slice sz x lo hi mx) = oslice sz (onv p e lo) (onv p e hi) (onv p e mx) (ev p e x) := by
  have h1 : ∀ d x, onat p e d x = natD d (onv p e x) := by
    intro d x
    cases x with
    | none => rfl
    | some x => simp only [onat, onv]; cases ev p e x <;> rfl
  have h2 : ∀ x, omx p e x = natM (onv p e x) := by
    intro x
    cases x with
    | none => rfl
    | some x => simp only [omx, onat, onv]; cases ev p e x <;> rfl
  rw [stepP]
  cases ev p e x with
  | none => rfl
  | some v =>
    cases v with
    | sl es k =>
      simp only [oslice, h1, h2]
      split
      · cases natD 0 (onv p e lo) with
        | none => rfl
        | some l =>
          cases natD es.length (onv p e hi) with
          | none => rfl
          | some h =>
            cases natM (onv p e mx) with
            | none => rfl
            | some m => simp only [ocut]; cases cut es l h m <;> rfl
      · rfl
    | _ => rfl
@[simp] theorem oslice_s (sz l h m es k) : oslice sz l h m (some (.sl es k)) = if es.all (fun v => decide (v.cells.length = sz)) then ocut es (natD 0 l) (natD es.length h) (natM m) else none := rfl
@[simp] theorem ocut_n (l es h) : ocut es (some l) (some h) (some none) = if l ≤ h ∧ h ≤ es.length then some (.sl ((es.take h).drop l) .shut, none) else none := by
  simp only [ocut, cut]; split <;> rfl
@[simp] theorem ocut_m (l es h m) : ocut es (some l) (some h) (some (some m)) = if l ≤ h ∧ h ≤ m ∧ m ≤ es.length then some (.sl ((es.take h).drop l) (if m = h then .exact else .shut), none) else none := by
  simp only [ocut, cut]; split <;> rfl

/-- a cell written, then the rest -/
def kfill (e : Env) (cs : List AV) (off n : Nat) (ps : List (Nat × Nat × Opd)) : Option AV → Option (List AV)
  | some v => if v.flats = true ∧ v.cells.length = n ∧ off + n ≤ cs.length then fill p e (splice cs off v.cells) ps else none
  | none => none
@[simp] theorem kfill_s (e cs off n ps v) : kfill p e cs off n ps (some v) = if v.flats = true ∧ v.cells.length = n ∧ off + n ≤ cs.length then fill p e (splice cs off v.cells) ps else none := rfl
@[simp] theorem fill_nil (e cs) : fill p e cs [] = some cs := rfl
@[simp] theorem fill_cons (e cs off n x ps) : fill p e cs ((off, n, x) :: ps) = kfill p e cs off n ps (ev p e x) := by
  rw [fill]; cases ev p e x <;> rfl
def kelems (e : Env) (sz : Nat) (es : List AV) (j : Nat) (ps : List (Nat × Opd)) : Option AV → Option (List AV)
  | some v => if v.flats = true ∧ v.cells.length = sz ∧ j < es.length then elems p e sz (es.set j v.shutv) ps else none
  | none => none
@[simp] theorem kelems_s (e sz es j ps v) : kelems p e sz es j ps (some v) = if v.flats = true ∧ v.cells.length = sz ∧ j < es.length then elems p e sz (es.set j v.shutv) ps else none := rfl
@[simp] theorem elems_nil (e sz es) : elems p e sz es [] = some es := rfl
@[simp] theorem elems_cons (e sz es j x ps) : elems p e sz es ((j, x) :: ps) = kelems p e sz es j ps (ev p e x) := by
  rw [elems]; cases ev p e x <;> rfl

def genv : AV → Nat
  | .lbox g _ | .fbox g _ => g + 1
  | _ => 0
theorem gen_genv (e : Env) (s : Nat) : gen e s = genv (e s) := by
  unfold gen genv; cases e s <;> rfl
@[simp] theorem gen_set (e : Env) (k s v) : gen (e.set k v) s = if s = k then genv v else gen e s := by
  rw [gen_genv, gen_genv, get_set']; split <;> rfl
@[simp] theorem gen_init (args s) : gen (init args) s = genv (args.getD s (.tup [])) := by rw [gen_genv]; rfl
@[simp] theorem genv_l (g cs) : genv (.lbox g cs) = g + 1 := rfl
@[simp] theorem genv_f (g cs) : genv (.fbox g cs) = g + 1 := rfl
@[simp] theorem genv_i (k n) : genv (.int k n) = 0 := rfl
@[simp] theorem genv_b (b) : genv (.bool b) = 0 := rfl
@[simp] theorem genv_t (b) : genv (.tup b) = 0 := rfl
@[simp] theorem genv_a (b) : genv (.agg b) = 0 := rfl
@[simp] theorem genv_s (b k) : genv (.sl b k) = 0 := rfl

/-! values -/
@[simp] theorem cells_int (k n) : (AV.int k n).cells = [.int k n] := rfl
@[simp] theorem cells_bool (b) : (AV.bool b).cells = [.bool b] := rfl
@[simp] theorem cells_sl (es k) : (AV.sl es k).cells = [.sl es k] := rfl
@[simp] theorem cells_agg (cs) : (AV.agg cs).cells = cs := rfl
@[simp] theorem cells_fn (a b c) : (AV.fn a b c).cells = [.fn a b c] := rfl
@[simp] theorem cells_mp (a) : (AV.mp a).cells = [.mp a] := rfl
@[simp] theorem cells_mv (a b) : (AV.mv a b).cells = [.mv a b] := rfl
@[simp] theorem cells_nilf : (AV.nilf).cells = [.nilf] := rfl
@[simp] theorem cells_nilm : (AV.nilm).cells = [.nilm] := rfl
@[simp] theorem cells_msl (a b c d) : (AV.msl a b c d).cells = [.msl a b c d] := rfl
@[simp] theorem cells_yld (a) : (AV.yld a).cells = [.yld a] := rfl
@[simp] theorem cells_ptr (a b) : (AV.ptr a b).cells = [.ptr a b] := rfl
@[simp] theorem flats_def (v : AV) : v.flats = v.cells.all AV.flat := rfl
@[simp] theorem flat_int (k n) : (AV.int k n).flat = true := rfl
@[simp] theorem flat_bool (b) : (AV.bool b).flat = true := rfl
@[simp] theorem flat_sl (es k) : (AV.sl es k).flat = true := rfl
@[simp] theorem flat_fn (a b c) : (AV.fn a b c).flat = true := rfl
@[simp] theorem flat_mp (a) : (AV.mp a).flat = true := rfl
@[simp] theorem flat_mv (a b) : (AV.mv a b).flat = true := rfl
@[simp] theorem flat_nilf : (AV.nilf).flat = true := rfl
@[simp] theorem flat_nilm : (AV.nilm).flat = true := rfl
@[simp] theorem flat_msl (a b c d) : (AV.msl a b c d).flat = true := rfl
@[simp] theorem flat_yld (a) : (AV.yld a).flat = true := rfl
@[simp] theorem flat_ptr (a b) : (AV.ptr a b).flat = true := rfl
attribute [simp] AV.shut1 AV.shuts AV.shut2 AV.shut2s AV.shutv AV.clean cleans frz1 frzs frz2 frz2s frz3 unit keyLen

@[simp] theorem bin_add (k a b) : bin .add (.int k a) (.int k b) = some (.int k (k.wrap (a + b))) := by simp [bin, binI]
@[simp] theorem bin_sub (k a b) : bin .sub (.int k a) (.int k b) = some (.int k (k.wrap (a - b))) := by simp [bin, binI]
@[simp] theorem bin_mul (k a b) : bin .mul (.int k a) (.int k b) = some (.int k (k.wrap (a * b))) := by simp [bin, binI]
@[simp] theorem bin_rem (k a b) : bin .rem (.int k a) (.int k b) = if b = 0 then none else some (.int k (a.tmod b)) := by simp [bin, binI]
@[simp] theorem bin_quo (k a b) : bin .quo (.int k a) (.int k b) = if b = 0 then none else some (.int k (k.wrap (a.tdiv b))) := by simp [bin, binI]
@[simp] theorem bin_eql (k a b) : bin .eql (.int k a) (.int k b) = some (.bool (decide (a = b))) := by
  simp only [bin, binI, if_true]; congr 2 <;> by_cases h : a = b <;> simp [h]
@[simp] theorem bin_neq (k a b) : bin .neq (.int k a) (.int k b) = some (.bool (decide (¬ a = b))) := by
  simp only [bin, binI, if_true]; congr 2; by_cases h : a = b <;> simp [h]
@[simp] theorem bin_lss (k a b) : bin .lss (.int k a) (.int k b) = some (.bool (decide (a < b))) := by simp [bin, binI]
@[simp] theorem bin_leq (k a b) : bin .leq (.int k a) (.int k b) = some (.bool (decide (a ≤ b))) := by simp [bin, binI]
@[simp] theorem bin_gtr (k a b) : bin .gtr (.int k a) (.int k b) = some (.bool (decide (b < a))) := by simp [bin, binI]
@[simp] theorem bin_geq (k a b) : bin .geq (.int k a) (.int k b) = some (.bool (decide (b ≤ a))) := by simp [bin, binI]
@[simp] theorem un_neg (k n) : un .neg (.int k n) = some (.int k (k.wrap (0 - n))) := rfl
@[simp] theorem un_not (b) : un .not (.bool b) = some (.bool !b) := rfl
theorem wrap_id {n : Int} (h1 : -9223372036854775808 ≤ n) (h2 : n < 9223372036854775808) : IntKind.wrap .i64 n = n := by
  simp [IntKind.wrap, IntKind.bits, IntKind.signed]
  omega
@[simp] theorem part_s (c : AV) (cs : List AV) (off n : Nat) (agg : Bool) : part (c :: cs) (off + 1) n agg = part cs off n agg := by
  simp only [part, List.length_cons, List.drop_succ_cons, List.getElem?_cons_succ, show off + 1 + n = (off + n) + 1 by omega, Nat.add_le_add_iff_right]
@[simp] theorem part_0 (c : AV) (cs : List AV) : part (c :: cs) 0 1 false = some c := by simp [part]
@[simp] theorem part_a (c : AV) (cs : List AV) (n : Nat) : part (c :: cs) 0 (n + 1) true = if n ≤ cs.length then some (.agg (c :: cs.take n)) else none := by
  simp [part]
@[simp] theorem splice_s (c : AV) (cs : List AV) (off : Nat) (new : List AV) : splice (c :: cs) (off + 1) new = c :: splice cs off new := by
  simp [splice, show off + 1 + new.length = (off + new.length) + 1 by omega]
@[simp] theorem splice_0 (c : AV) (cs new : List AV) : splice (c :: cs) 0 new = new ++ (c :: cs).drop new.length := by
  simp [splice]
def snv : AV → AV
  | .fbox _ cs => .cptr cs
  | v => if v.okv then v else .junk
@[simp] theorem snap_get (e : Env) (j : Nat) : snap e j = snv (e j) := by
  unfold snap snv; cases e j <;> rfl
@[simp] theorem gen_snap (e : Env) (j : Nat) : gen (snap e) j = genv (snv (e j)) := by rw [gen_genv, snap_get]
@[simp] theorem snv_fbox (g cs) : snv (.fbox g cs) = .cptr cs := rfl
@[simp] theorem snv_lbox (g cs) : snv (.lbox g cs) = .junk := rfl
@[simp] theorem snv_ptr (a b) : snv (.ptr a b) = .ptr a b := rfl
@[simp] theorem snv_cptr (cs) : snv (.cptr cs) = .cptr cs := rfl
@[simp] theorem snv_int (k n) : snv (.int k n) = .int k n := rfl
@[simp] theorem snv_tup (vs) : snv (.tup vs) = .tup vs := rfl
@[simp] theorem snv_bool (vs) : snv (.bool vs) = .bool vs := rfl
@[simp] theorem snv_fn (a b c) : snv (.fn a b c) = .fn a b c := rfl
@[simp] theorem snv_agg (vs) : snv (.agg vs) = .agg vs := rfl
@[simp] theorem genv_j : genv .junk = 0 := rfl

/-! running -/
def kp (d : Option Nat) (e : Env) (h : H) : SR → Option (Env × H)
  | some (v, none) => some (e.dst d v, h)
  | some (v, some (s, w)) => some ((e.set s w).dst d v, h)
  | none => none
@[simp] theorem kp_n (k e h v) : kp (some k) e h (some (v, none)) = some (e.set k v, h) := rfl
@[simp] theorem kp_s (e h v s w) : kp none e h (some (v, some (s, w))) = some (e.set s w, h) := rfl
@[simp] theorem kp_nn (e h v) : kp none e h (some (v, none)) = some (e, h) := rfl
def kh (d : Option Nat) (e : Env) : Option (AV × H) → Option (Env × H)
  | some (v, h) => some (e.dst d v, h)
  | none => none
@[simp] theorem kh_n (k e v h) : kh (some k) e (some (v, h)) = some (e.set k v, h) := rfl
@[simp] theorem kh_nn (e v h) : kh none e (some (v, h)) = some (e, h) := rfl
def kv (d : Option Nat) (e : Env) (h : H) : Option AV → Option (Env × H)
  | some v => some (e.dst d v, h)
  | none => none
@[simp] theorem kv_n (k e v h) : kv (some k) e h (some v) = some (e.set k v, h) := rfl
@[simp] theorem kv_nn (e v h) : kv none e h (some v) = some (e, h) := rfl
noncomputable def ocall (h : H) : Option AV → Option (List AV) → Option (AV × H)
  | some f, some vs => dcall p f vs h
  | _, _ => none
@[simp] theorem ocall_s (h f vs) : ocall p h (some f) (some vs) = dcall p f vs h := rfl
noncomputable def ocalli : Option AV → Option (List AV) → Option AV
  | some f, some vs => icall p f (vs.map AV.shutv)
  | _, _ => none
@[simp] theorem ocalli_s (f vs) : ocalli p (some f) (some vs) = icall p f (vs.map AV.shutv) := rfl
noncomputable def kops (os : List GIns) : Option (Env × H) → Option (Env × H)
  | some (e, h) => dops p os e h
  | none => none
@[simp] theorem kops_s (os e h) : kops p os (some (e, h)) = dops p os e h := rfl
@[simp] theorem r_p (d i os e h) : dops p (⟨d, .p i, none⟩ :: os) e h = kops p os (kp d e h (stepP p e i)) := by
  rw [dcons, opd]
  cases stepP p e i with
  | none => rfl
  | some r => obtain ⟨v, w⟩ := r; cases w <;> rfl
@[simp] theorem r_h (d i os e h) : dops p (⟨d, .h i, none⟩ :: os) e h = kops p os (kh d e (stepH p e h i)) := by
  rw [dcons, opd]
  cases stepH p e h i with
  | none => rfl
  | some r => rfl
@[simp] theorem r_call (d f args os e h) : dops p (⟨d, .call f args, none⟩ :: os) e h = kops p os (kh d e (ocall p h (ev p e f) (evs p e args))) := by
  rw [dcons, opd]
  cases ev p e f with
  | none => rfl
  | some f => cases evs p e args with
    | none => rfl
    | some vs => simp only [obind_some, ocall]; cases dcall p f vs h <;> rfl
@[simp] theorem r_calli (d f args os e h) : dops p (⟨d, .calli f args, none⟩ :: os) e h = kops p os (kv d e h (ocalli p (ev p e f) (evs p e args))) := by
  rw [dcons, opd]
  cases ev p e f with
  | none => rfl
  | some f => cases evs p e args with
    | none => rfl
    | some vs => simp only [obind_some, ocalli]; cases icall p f (vs.map AV.shutv) <;> rfl
noncomputable def kguard (d : Option Nat) (i : Ins) (w : Bool) (os : List GIns) (e : Env) (h : H) (v : AV) : Option (Env × H) :=
  oguard v w (dops p (⟨d, i, none⟩ :: os) e h) (dops p os (e.dst d (.tup [])) h)
@[simp] theorem r_guard (d i s w os e h) : dops p (⟨d, i, some (s, w)⟩ :: os) e h = kguard p d i w os e h (e s) := dguard ..
@[simp] theorem kguard_tt (d i os e h) : kguard p d i true os e h (.bool true) = dops p (⟨d, i, none⟩ :: os) e h := rfl
@[simp] theorem kguard_ff (d i os e h) : kguard p d i false os e h (.bool false) = dops p (⟨d, i, none⟩ :: os) e h := rfl
@[simp] theorem kguard_tf (k i os e h) : kguard p (some k) i false os e h (.bool true) = dops p os (e.set k (.tup [])) h := rfl
@[simp] theorem kguard_ft (k i os e h) : kguard p (some k) i true os e h (.bool false) = dops p os (e.set k (.tup [])) h := rfl
@[simp] theorem kguard_un (k i w os e h) : kguard p (some k) i w os e h (.tup []) = dops p os (e.set k (.tup [])) h := rfl
@[simp] theorem kguard_tf' (i os e h) : kguard p none i false os e h (.bool true) = dops p os e h := rfl
@[simp] theorem kguard_ft' (i os e h) : kguard p none i true os e h (.bool false) = dops p os e h := rfl
@[simp] theorem kguard_un' (i w os e h) : kguard p none i w os e h (.tup []) = dops p os e h := rfl
def kreg : Option (Env × H) → R
  | some (e, h) => some (.normal, e, h)
  | none => none
@[simp] theorem kreg_s (e h) : kreg (some (e, h)) = some (.normal, e, h) := rfl
@[simp] theorem r_reg (ops e h) : den p (.reg ops) e h = kreg (dops p ops e h) := by
  rw [dreg]; cases dops p ops e h <;> rfl
noncomputable def kseq (b : ACode) : R → R
  | some (.normal, e, h) => den p b e h
  | some (.exit i, e, h) => some (.exit i, e, h)
  | some (.ret, e, h) => some (.ret, e, h)
  | none => none
@[simp] theorem kseq_n (b e h) : kseq p b (some (.normal, e, h)) = den p b e h := rfl
@[simp] theorem kseq_e (b i e h) : kseq p b (some (.exit i, e, h)) = some (.exit i, e, h) := rfl
@[simp] theorem kseq_r (b e h) : kseq p b (some (.ret, e, h)) = some (.ret, e, h) := rfl
@[simp] theorem r_seq (a b e h) : den p (.seq a b) e h = kseq p b (den p a e h) := by
  rw [dseq]; cases den p a e h with
  | none => rfl
  | some q => obtain ⟨o, e, h⟩ := q; cases o <;> rfl
theorem r_loop (c e h) : den p (.loop c) e h = kseq p (.loop c) (den p c e h) := by
  rw [den_loop]; cases den p c e h with
  | none => rfl
  | some q => obtain ⟨o, e, h⟩ := q; cases o <;> rfl
noncomputable def kcond (a b : ACode) (e : Env) (h : H) (c : Option AV) : R := ocond c (den p a e h) (den p b e h)
@[simp] theorem kcond_t (a b e h) : kcond p a b e h (some (.bool true)) = den p a e h := rfl
@[simp] theorem kcond_f (a b e h) : kcond p a b e h (some (.bool false)) = den p b e h := rfl
@[simp] theorem r_cond (x a b e h) : den p (.cond x a b) e h = kcond p a b e h (ev p e x) := dcond ..
attribute [simp] dblock dops_nil den_skip den_ret den_exit den_scope
theorem kcond_dec (a b e h) (P : Prop) [Decidable P] : kcond p a b e h (some (.bool (decide P))) = if P then den p a e h else den p b e h := by
  by_cases q : P <;> simp [q]
noncomputable def kfrz (s : Nat) (ss : List Nat) (c : ACode) (e : Env) (h : H) : AV → R
  | .lbox g cs => den p (.frz ss c) (e.set s (.fbox g cs)) h
  | .fbox _ _ => den p (.frz ss c) e h
  | _ => none
@[simp] theorem kfrz_l (s ss c e h g cs) : kfrz p s ss c e h (.lbox g cs) = den p (.frz ss c) (e.set s (.fbox g cs)) h := rfl
@[simp] theorem kfrz_f (s ss c e h g cs) : kfrz p s ss c e h (.fbox g cs) = den p (.frz ss c) e h := rfl
@[simp] theorem r_frz0 (c e h) : den p (.frz [] c) e h = den p c e h := by rw [den_frz]; rfl
@[simp] theorem r_frz (s ss c e h) : den p (.frz (s :: ss) c) e h = kfrz p s ss c e h (e s) := by
  rw [den_frz, frzE]
  cases e s with
  | lbox g cs => simp only [kfrz]; rw [den_frz]
  | fbox g cs => simp only [kfrz]; rw [den_frz]
  | _ => rfl

noncomputable def kfrzm (s : Nat) (c : ACode) (e : Env) (h : H) : AV → R
  | .lbox g cs => den p c (e.set s (.lbox g (fzvs (fzH h (fzids cs)) cs))) (fzH h (fzids cs))
  | _ => none
@[simp] theorem kfrzm_l (s c e h g cs) : kfrzm p s c e h (.lbox g cs) = den p c (e.set s (.lbox g (fzvs (fzH h (fzids cs)) cs))) (fzH h (fzids cs)) := rfl
@[simp] theorem r_frzm (s c e h) : den p (.frzm s c) e h = kfrzm p s c e h (e s) := by
  rw [den_frzm]; cases e s <;> rfl
noncomputable def kshr (s : Nat) (c : ACode) (e : Env) (h : H) : AV → R
  | .lbox _ cs => den p c (e.shr s h.n) (h.new (.cells cs))
  | _ => none
@[simp] theorem kshr_l (s c e h g cs) : kshr p s c e h (.lbox g cs) = den p c (e.shr s h.n) (h.new (.cells cs)) := rfl
@[simp] theorem r_shr (s c e h) : den p (.shr s c) e h = kshr p s c e h (e s) := by
  rw [den_shr]; cases e s <;> rfl
@[simp] theorem shr_same (e : Env) (s n : Nat) : (e.shr s n) s = .ptr n 0 := by simp [Env.shr]
theorem shr_at (e : Env) (s n k : Nat) (h : k ≠ s) : (e.shr s n) k = unl s (e k) := by simp [Env.shr, h]
@[simp] theorem fzids_n : fzids [] = [] := rfl
@[simp] theorem fzids_m (b o l s vs) : fzids (.msl b o l s :: vs) = b :: fzids vs := rfl
@[simp] theorem fzids_s (es k vs) : fzids (.sl es k :: vs) = fzids vs := rfl
@[simp] theorem fzids_i (k n vs) : fzids (.int k n :: vs) = fzids vs := rfl
def fzB (h : H) (b : Nat) : Option AObj → H
  | some (.cells cs) => h.put b (.frz cs)
  | _ => h
@[simp] theorem fzB_c (h b cs) : fzB h b (some (.cells cs)) = h.put b (.frz cs) := rfl
@[simp] theorem fzH_n (h) : fzH h [] = h := rfl
@[simp] theorem fzH_s (h b bs) : fzH h (b :: bs) = fzH (fzB h b (h.get b)) bs := by
  rw [fzH]
  cases h.get b with
  | none => rfl
  | some o => cases o <;> rfl
def fzO (off len sz : Nat) : Option AObj → AV
  | some (.frz cs) => if off + len * sz ≤ cs.length ∧ cs.all AV.flat = true then .sl (chunk sz len (cs.drop off)) .shut else .junk
  | _ => .junk
@[simp] theorem fzO_f (off len sz cs) : fzO off len sz (some (.frz cs)) = if off + len * sz ≤ cs.length ∧ cs.all AV.flat = true then .sl (chunk sz len (cs.drop off)) .shut else .junk := rfl
@[simp] theorem fzvs_n (h) : fzvs h [] = [] := rfl
@[simp] theorem fzvs_m (h b o l s vs) : fzvs h (.msl b o l s :: vs) = fzO o l s (h.get b) :: fzvs h vs := by
  rw [fzvs]; congr 1
@[simp] theorem fzvs_s (h es k vs) : fzvs h (.sl es k :: vs) = .sl es k :: fzvs h vs := rfl
@[simp] theorem fzvs_i (h k n vs) : fzvs h (.int k n :: vs) = .int k n :: fzvs h vs := rfl

@[simp] theorem fzB_f (h b cs) : fzB h b (some (.frz cs)) = h := rfl

/-! shared memory -/
@[simp] theorem new_get (h : H) (o j) : (h.new o).get j = if j = h.n then some o else h.get j := rfl
@[simp] theorem put_get (h : H) (k o j) : (h.put k o).get j = if j = k then some o else h.get j := rfl
@[simp] theorem new_n (h : H) (o) : (h.new o).n = h.n + 1 := rfl
@[simp] theorem put_n (h : H) (k o) : (h.put k o).n = h.n := rfl
@[simp] theorem emp_n : H.emp.n = 0 := rfl
@[simp] theorem emp_get (j) : H.emp.get j = none := rfl
def opvH (h : H) : Option AV → Option (AV × H)
  | some v => some (v, h)
  | none => none
@[simp] theorem opvH_s (h v) : opvH h (some v) = some (v, h) := rfl
@[simp] theorem rh_alloc (e h zs) : stepH p e h (.alloc zs) = some (.ptr h.n 0, h.new (.cells zs)) := rfl
def obox (h : H) : Option AV → Option (AV × H)
  | some v => if v.flats then some (.ptr h.n 0, h.new (.cells v.cells)) else none
  | none => none
@[simp] theorem obox_s (h v) : obox h (some v) = if v.flats then some (.ptr h.n 0, h.new (.cells v.cells)) else none := rfl
@[simp] theorem rh_box (e h x) : stepH p e h (.box x) = obox h (ev p e x) := by
  rw [stepH]; cases ev p e x <;> rfl
def oloadO (h : H) (o n : Nat) (agg : Bool) : Option AObj → Option (AV × H)
  | some (.cells cs) | some (.frz cs) => opvH h (part cs o n agg)
  | _ => none
@[simp] theorem oloadO_c (h o n agg cs) : oloadO h o n agg (some (.cells cs)) = opvH h (part cs o n agg) := rfl
def oload (h : H) (n : Nat) (agg : Bool) : Option AV → Option (AV × H)
  | some (.ptr b o) => if b < h.n then oloadO h o n agg (h.get b) else none
  | some (.cptr cs) => opvH h (part cs 0 n agg)
  | _ => none
@[simp] theorem oload_p (h n agg b o) : oload h n agg (some (.ptr b o)) = if b < h.n then oloadO h o n agg (h.get b) else none := rfl
@[simp] theorem oload_c (h n agg cs) : oload h n agg (some (.cptr cs)) = opvH h (part cs 0 n agg) := rfl
@[simp] theorem rh_load (e h n agg a) : stepH p e h (.load n agg a) = oload h n agg (ev p e a) := by
  rw [stepH]
  cases ev p e a with
  | none => rfl
  | some v =>
    cases v with
    | ptr b o =>
      simp only [oload]
      split
      · cases h.get b with
        | none => rfl
        | some x => cases x <;> first | rfl | (simp only [oloadO]; rename_i cs; cases part cs o n agg <;> rfl)
      · rfl
    | cptr cs => simp only [oload]; cases part cs 0 n agg <;> rfl
    | _ => rfl
def ostoreO (h : H) (b o n : Nat) (v : AV) : Option AObj → Option (AV × H)
  | some (.cells cs) => if v.flats = true ∧ v.cells.length = n ∧ o + n ≤ cs.length then some (.tup [], h.put b (.cells (splice cs o v.cells))) else none
  | _ => none
@[simp] theorem ostoreO_c (h b o n v cs) : ostoreO h b o n v (some (.cells cs)) = if v.flats = true ∧ v.cells.length = n ∧ o + n ≤ cs.length then some (.tup [], h.put b (.cells (splice cs o v.cells))) else none := rfl
def ostore (h : H) (n : Nat) : Option AV → Option AV → Option (AV × H)
  | some (.ptr b o), some v => ostoreO h b o n v (h.get b)
  | _, _ => none
@[simp] theorem ostore_p (h n b o v) : ostore h n (some (.ptr b o)) (some v) = ostoreO h b o n v (h.get b) := rfl
@[simp] theorem rh_store (e h n a x) : stepH p e h (.store n a x) = ostore h n (ev p e a) (ev p e x) := by
  rw [stepH]
  cases ev p e a with
  | none => rfl
  | some a =>
    cases ev p e x with
    | none => cases a <;> rfl
    | some v =>
      cases a with
      | ptr b o =>
        simp only [ostore]
        cases h.get b with
        | none => rfl
        | some x => cases x <;> rfl
      | _ => rfl
@[simp] theorem rh_mkmap (e h) : stepH p e h .mkmap = some (.mp h.n, h.new (.mp [])) := rfl
def omapset (h : H) (b : Nat) : Option (List (AV × AV)) → Option (AV × H)
  | some es => some (.tup [], h.put b (.mp es))
  | none => none
@[simp] theorem omapset_s (h b es) : omapset h b (some es) = some (.tup [], h.put b (.mp es)) := rfl
def omapO (h : H) (n b : Nat) (k v : AV) : Option AObj → Option (AV × H)
  | some (.mp es) => omapset h b (setk n k v es)
  | _ => none
@[simp] theorem omapO_m (h n b k v es) : omapO h n b k v (some (.mp es)) = omapset h b (setk n k v es) := rfl
def omapupd (h : H) (n : Nat) : Option AV → Option AV → Option AV → Option (AV × H)
  | some (.mp b), some k, some v => if keyLen n k = false ∨ v.flat = false then none else omapO h n b k v (h.get b)
  | _, _, _ => none
@[simp] theorem omapupd_m (h n b k v) : omapupd h n (some (.mp b)) (some k) (some v) = if keyLen n k = false ∨ v.flat = false then none else omapO h n b k v (h.get b) := rfl
@[simp] theorem rh_mapupd (e h n m k v) : stepH p e h (.mapupd n m k v) = omapupd h n (ev p e m) (ev p e k) (ev p e v) := by
  rw [stepH]
  cases ev p e m with
  | none => rfl
  | some m =>
    cases ev p e k with
    | none => cases m <;> rfl
    | some k =>
      cases ev p e v with
      | none => cases m <;> rfl
      | some v =>
        cases m with
        | mp b =>
          simp only [omapupd]
          split
          · rfl
          · cases h.get b with
            | none => rfl
            | some x =>
              cases x with
              | mp es => simp only [omapO]; cases setk n k v es <;> rfl
              | _ => rfl
        | _ => rfl
def oappS (h : H) (sz bytes : Nat) (es : List AV) (k : SK) (s : AV) : Option (List AV) → Option (AV × H)
  | some new =>
        if new.length = 0 then some (s, h) else
        if es.all (fun v => decide (v.cells.length = sz)) = true ∧ roomFor (es.length + new.length) bytes = true then
          match k with
          | .exact => some (.sl (es ++ new.map AV.shutv) (.opn h.n), h.new .tok)
          | .opn t => match h.get t with
            | some .tok => some (.sl (es ++ new.map AV.shutv) (.opn h.n), (h.put t .dead).new .tok)
            | _ => none
          | .shut => none
        else none
  | none => none
def oapp (h : H) (sz bytes : Nat) : Option AV → Option AV → Option (AV × H)
  | some (.sl es k), some x => oappS h sz bytes es k (.sl es k) (elemsOf sz x)
  | _, _ => none
@[simp] theorem rh_append (e h sz bytes s x) : stepH p e h (.append sz bytes s x) = oapp h sz bytes (ev p e s) (ev p e x) := by
  rw [stepH]
  cases ev p e s with
  | none => rfl
  | some s =>
    cases ev p e x with
    | none => cases s <;> rfl
    | some x =>
      cases s with
      | sl es k => simp only [oapp]; cases elemsOf sz x <;> rfl
      | _ => rfl
def oappN (h : H) (sz bytes : Nat) (s : AV) : Option (List AV) → Option (AV × H)
  | some new => appM h sz bytes new s
  | none => none
def oappM (h : H) (sz bytes : Nat) : Option AV → Option AV → Option (AV × H)
  | some s, some x => oappN h sz bytes s (elemsOf sz x)
  | _, _ => none
@[simp] theorem rh_appendM (e h sz bytes s x) : stepH p e h (.appendM sz bytes s x) = oappM h sz bytes (ev p e s) (ev p e x) := by
  rw [stepH]
  cases ev p e s with
  | none => rfl
  | some s =>
    cases ev p e x with
    | none => rfl
    | some x => simp only [oappM]; cases elemsOf sz x <;> rfl
/-- a new slice of memory -/
theorem appM_new {h : H} {sz bytes : Nat} {new : List AV} {k2 : SK} (hn : new.length ≠ 0)
    (hnew : new.all (fun v => decide (v.cells.length = sz) && v.flats) = true) (hr : new.length * bytes ≤ 140737488355328 ∧ new.length ≤ 4611686018427387904) :
    oappM h sz bytes (some (.sl [] .exact)) (some (.sl new k2)) = some (.msl h.n 0 new.length sz, h.new (.cells (new.flatMap AV.cells))) := by
  have h1 : elemsOf sz (.sl new k2) = some new := by simp only [elemsOf, hnew, if_true]
  have h2 : roomFor new.length bytes = true := by simp only [roomFor]; exact decide_eq_true hr
  simp only [oappM, oappN, h1, appM, hn, if_false, h2, if_true]
theorem appM_nil (h : H) (sz bytes : Nat) (k2 : SK) : oappM h sz bytes (some (.sl [] .exact)) (some (.sl [] k2)) = some (.sl [] .exact, h) := rfl
theorem appM_grow {h : H} {sz bytes b len : Nat} {cs new : List AV} {k2 : SK} (hb : h.get b = some (.cells cs)) (hl : cs.length = len * sz) (hn : new.length ≠ 0)
    (hnew : new.all (fun v => decide (v.cells.length = sz) && v.flats) = true) (hr : (len + new.length) * bytes ≤ 140737488355328 ∧ len + new.length ≤ 4611686018427387904) :
    oappM h sz bytes (some (.msl b 0 len sz)) (some (.sl new k2)) = some (.msl h.n 0 (len + new.length) sz, (h.put b .dead).new (.cells (cs ++ new.flatMap AV.cells))) := by
  have h1 : elemsOf sz (.sl new k2) = some new := by simp only [elemsOf, hnew, if_true]
  have h2 : roomFor (len + new.length) bytes = true := by simp only [roomFor]; exact decide_eq_true hr
  simp only [oappM, oappN, h1, appM, hb, hl, h2, hn, ne_eq, not_false_eq_true, and_self, if_true]
def obsM (h : H) (sz len : Nat) : Option (List AV) → Option (AV × H)
  | some es => some (.msl h.n 0 len sz, h.new (.cells (es.flatMap AV.cells)))
  | none => none
@[simp] theorem obsM_s (h sz len es) : obsM h sz len (some es) = some (.msl h.n 0 len sz, h.new (.cells (es.flatMap AV.cells))) := rfl
@[simp] theorem rh_bsliceM (e h sz zs len ps) : stepH p e h (.bsliceM sz zs len ps) = obsM h sz len (elems p e sz (List.replicate len (unit zs)) ps) := by
  rw [stepH]; cases elems p e sz (List.replicate len (unit zs)) ps <;> rfl
def oloadzV (h : H) : Option AV → Option (AV × H)
  | some (.agg vs) => some (.agg (fzvs (fzH h (fzids vs)) vs), fzH h (fzids vs))
  | _ => none
@[simp] theorem oloadzV_s (h vs) : oloadzV h (some (.agg vs)) = some (.agg (fzvs (fzH h (fzids vs)) vs), fzH h (fzids vs)) := rfl
def oloadzO (h : H) (o n : Nat) : Option AObj → Option (AV × H)
  | some (.cells cs) => oloadzV h (part cs o n true)
  | _ => none
@[simp] theorem oloadzO_c (h o n cs) : oloadzO h o n (some (.cells cs)) = oloadzV h (part cs o n true) := rfl
def oloadz (h : H) (n : Nat) : Option AV → Option (AV × H)
  | some (.ptr b o) => oloadzO h o n (h.get b)
  | _ => none
@[simp] theorem oloadz_p (h n b o) : oloadz h n (some (.ptr b o)) = oloadzO h o n (h.get b) := rfl
@[simp] theorem rh_loadz (e h n a) : stepH p e h (.loadz n a) = oloadz h n (ev p e a) := by
  rw [stepH]
  cases ev p e a with
  | none => rfl
  | some v =>
    cases v with
    | ptr b o =>
      simp only [oloadz]
      cases h.get b with
      | none => rfl
      | some x =>
        cases x with
        | cells cs =>
          simp only [oloadzO]
          cases part cs o n true with
          | none => rfl
          | some v => cases v <;> rfl
        | _ => rfl
    | _ => rfl
def oappZO (h : H) (sz bytes : Nat) (zs : List AV) (n b len sz' : Nat) : Option AObj → Option (AV × H)
  | some (.cells cs) => if sz' = sz ∧ cs.length = len * sz ∧ roomFor (len + n) bytes = true ∧ n ≠ 0 then
          some (.msl h.n 0 (len + n) sz, (h.put b .dead).new (.cells (cs ++ (List.replicate n zs).flatten))) else none
  | _ => none
@[simp] theorem oappZO_c (h sz bytes zs n b len sz' cs) : oappZO h sz bytes zs n b len sz' (some (.cells cs)) = if sz' = sz ∧ cs.length = len * sz ∧ roomFor (len + n) bytes = true ∧ n ≠ 0 then
          some (.msl h.n 0 (len + n) sz, (h.put b .dead).new (.cells (cs ++ (List.replicate n zs).flatten))) else none := rfl
def oappZ (h : H) (sz bytes : Nat) (zs : List AV) (n : Nat) : Option AV → Option (AV × H)
  | some (.msl b 0 len sz') => oappZO h sz bytes zs n b len sz' (h.get b)
  | _ => none
@[simp] theorem oappZ_m (h sz bytes zs n b len sz') : oappZ h sz bytes zs n (some (.msl b 0 len sz')) = oappZO h sz bytes zs n b len sz' (h.get b) := rfl
@[simp] theorem rh_appendZ (e h sz bytes zs s n) : stepH p e h (.appendZ sz bytes zs s n) = oappZ h sz bytes zs n (ev p e s) := by
  rw [stepH]
  cases ev p e s with
  | none => rfl
  | some v =>
    cases v with
    | msl b o len sz' =>
      cases o with
      | zero =>
        simp only [oappZ]
        cases h.get b with
        | none => rfl
        | some x => cases x <;> rfl
      | succ o => rfl
    | _ => rfl
def oappK (h : H) (bytes : Nat) : Option (List AV) → Option (AV × H)
  | some new => if new.length = 0 then some (.sl [] .exact, h) else
          if roomFor new.length bytes = true then some (.sl (new.map AV.shutv) (.opn h.n), h.new .tok) else none
  | none => none
def oappC (h : H) (sz bytes : Nat) : Option AV → Option AV → Option (AV × H)
  | some (.sl [] .exact), some x => oappK h bytes (elemsM h sz x)
  | _, _ => none
@[simp] theorem rh_appendC (e h sz bytes s x) : stepH p e h (.appendC sz bytes s x) = oappC h sz bytes (ev p e s) (ev p e x) := by
  rw [stepH]
  cases ev p e s with
  | none => rfl
  | some s =>
    cases ev p e x with
    | none => cases s with
      | sl es k => cases es <;> cases k <;> rfl
      | _ => rfl
    | some x =>
      cases s with
      | sl es k =>
        cases es with
        | nil => cases k with
          | exact => simp only [oappC]; cases elemsM h sz x <;> rfl
          | _ => rfl
        | cons _ _ => rfl
      | _ => rfl
theorem appC_ok {h : H} {sz bytes b len : Nat} {cs : List AV} (hb : h.get b = some (.cells cs)) (hl : len * sz ≤ cs.length) (hf : cs.all AV.flat = true) (hn : len ≠ 0)
    (hr : len * bytes ≤ 140737488355328 ∧ len ≤ 4611686018427387904) :
    oappC h sz bytes (some (.sl [] .exact)) (some (.msl b 0 len sz)) = some (.sl ((chunk sz len cs).map AV.shutv) (.opn h.n), h.new .tok) := by
  have hc : (chunk sz len cs).length = len := by
    have : ∀ (n : Nat) (cs : List AV), (chunk sz n cs).length = n := fun n => by
      induction n with
      | zero => intro cs; rfl
      | succ n ih => intro cs; simp [chunk, ih]
    exact this len cs
  have h2 : roomFor len bytes = true := by simp only [roomFor]; exact decide_eq_true hr
  simp only [oappC, oappK, elemsM, hb, Nat.zero_add, hl, hf, and_self, if_true, List.drop_zero, hc, hn, if_false, h2]
/-- may a slice be appended to? -/
def Opn (h : H) : SK → Prop
  | .exact => True
  | .opn t => h.get t = some .tok
  | .shut => False
theorem app_ok {h : H} {sz bytes : Nat} {es new : List AV} {k k2 : SK} (ho : Opn h k) (hn : new.length ≠ 0) (he : es.all (fun v => decide (v.cells.length = sz)) = true)
    (hnew : new.all (fun v => decide (v.cells.length = sz) && v.flats) = true) (hr : (es.length + new.length) * bytes ≤ 140737488355328 ∧ es.length + new.length ≤ 4611686018427387904) :
    ∃ k' h', oapp h sz bytes (some (.sl es k)) (some (.sl new k2)) = some (.sl (es ++ new.map AV.shutv) k', h') ∧ Opn h' k' ∧ h.n ≤ h'.n ∧
      ∀ j, j < h.n → h.get j ≠ some .tok → h'.get j = h.get j := by
  have h1 : elemsOf sz (.sl new k2) = some new := by simp only [elemsOf, hnew, if_true]
  have h2 : roomFor (es.length + new.length) bytes = true := by simp only [roomFor]; exact decide_eq_true hr
  simp only [oapp, oappS, h1, hn, if_false, he, h2, and_self, if_true]
  cases k with
  | exact => exact ⟨_, _, rfl, by simp [Opn], by simp, fun j hj _ => by simp; omega⟩
  | opn t =>
    simp only [Opn] at ho
    simp only [ho]
    refine ⟨_, _, rfl, by simp [Opn], by simp, fun j hj ht => ?_⟩
    have : j ≠ t := fun hq => ht (hq ▸ ho)
    simp [this]; omega
  | shut => exact absurd ho id
/-- nothing is appended -/
theorem app_nil (h : H) (sz bytes : Nat) (es : List AV) (k k2 : SK) : oapp h sz bytes (some (.sl es k)) (some (.sl [] k2)) = some (.sl es k, h) := rfl

/-! ways -/
def wpr (r : R) (Q : Out → Env → H → Prop) : Prop := ∃ o e h, r = some (o, e, h) ∧ Q o e h
@[congr] theorem wpr_congr {r r' : R} {Q : Out → Env → H → Prop} (h : r = r') : wpr r Q = wpr r' Q := by rw [h]
@[simp] theorem wpr_some (o e h Q) : wpr (some (o, e, h)) Q = Q o e h := by
  apply propext
  constructor
  · rintro ⟨_, _, _, h1, h2⟩; cases h1; exact h2
  · exact fun h1 => ⟨_, _, _, rfl, h1⟩
theorem wpr_mono {r Q Q'} (h : wpr r Q) (hq : ∀ o e h, Q o e h → Q' o e h) : wpr r Q' := by
  obtain ⟨o, e, h1, h2, h3⟩ := h; exact ⟨o, e, h1, h2, hq _ _ _ h3⟩
def onN (Q : Out → Env → H → Prop) (f : Env → H → Prop) : Out → Env → H → Prop
  | .normal, e, h => f e h
  | o, e, h => Q o e h
theorem wpr_seq {p : AProg} {a : R} {b Q} (h : wpr a (onN Q fun e h => wpr (den p b e h) Q)) : wpr (kseq p b a) Q := by
  obtain ⟨o, e, h1, rfl, h3⟩ := h
  cases o with
  | normal => exact h3
  | exit j => exact ⟨_, _, _, rfl, h3⟩
  | ret => exact ⟨_, _, _, rfl, h3⟩
def onB (i : Nat) (Q : Out → Env → H → Prop) : Out → Env → H → Prop
  | .exit j, e, h => if j = i then Q .normal e h else Q (.exit j) e h
  | o, e, h => Q o e h
theorem wpr_oblock {i a Q} (h : wpr a (onB i Q)) : wpr (oblock i a) Q := by
  obtain ⟨o, e, h1, rfl, h3⟩ := h
  cases o with
  | normal => exact ⟨_, _, _, rfl, h3⟩
  | ret => exact ⟨_, _, _, rfl, h3⟩
  | exit j =>
    simp only [onB] at h3
    simp only [oblock]
    split
    · rw [if_pos ‹_›] at h3; exact ⟨_, _, _, rfl, h3⟩
    · rw [if_neg ‹_›] at h3; exact ⟨_, _, _, rfl, h3⟩

/-- a loop that counts up -/
theorem loop_up {c : ACode} {Q : Out → Env → H → Prop} (I : Nat → Env → H → Prop) (n : Nat)
    (step : ∀ k e h, k < n → I k e h → wpr (den p c e h) fun o e' h' => (o = .normal ∧ I (k + 1) e' h') ∨ (o ≠ .normal ∧ Q o e' h'))
    (stop : ∀ e h, I n e h → wpr (den p c e h) fun o e' h' => o ≠ .normal ∧ Q o e' h') :
    ∀ k e h, k ≤ n → I k e h → wpr (den p (.loop c) e h) Q := by
  have main : ∀ m k e h, n - k = m → k ≤ n → I k e h → wpr (den p (.loop c) e h) Q := by
    intro m
    induction m with
    | zero =>
      intro k e h hm hk hi
      have hkn : k = n := by omega
      subst hkn
      obtain ⟨o, e1, h1, h2, h3, h4⟩ := stop e h hi
      rw [dloop, h2]
      cases o with
      | normal => exact absurd rfl h3
      | exit j => exact ⟨_, _, _, rfl, h4⟩
      | ret => exact ⟨_, _, _, rfl, h4⟩
    | succ m ih =>
      intro k e h hm hk hi
      obtain ⟨o, e1, h1, h2, h3⟩ := step k e h (by omega) hi
      rw [dloop, h2]
      rcases h3 with ⟨rfl, h3⟩ | ⟨h3, h4⟩
      · exact ih (k + 1) e1 h1 (by omega) (by omega) h3
      · cases o with
        | normal => exact absurd rfl h3
        | exit j => exact ⟨_, _, _, rfl, h4⟩
        | ret => exact ⟨_, _, _, rfl, h4⟩
  exact fun k e h hk hi => main _ k e h rfl hk hi

/-- what a call ends in -/
theorem dcall_of {p : AProg} {k : Nat} {first cap args : List AV} {F : AFn} {h : H} {Q : AV → H → Prop} (hf : p.fn k = some F) (hn : (first ++ args ++ cap).length = F.nargs)
    (hw : wpr (den p F.body (init (first ++ args ++ cap)) h) fun o e h' => (o = .normal ∨ o = .ret) ∧ ∃ v, results p F e h' = some v ∧ Q v h') :
    ∃ v h', dcall p (.fn k first cap) args h = some (v, h') ∧ Q v h' := by
  rw [dcallf p k first cap args h F hf hn]
  obtain ⟨o, e, h1, h2, h3, v, h4, h5⟩ := hw
  rw [h2]
  rcases h3 with rfl | rfl
  · simp only [ores_normal, h4, obind_some]; exact ⟨_, _, rfl, h5⟩
  · simp only [ores_ret, h4, obind_some]; exact ⟨_, _, rfl, h5⟩
theorem icall_fn {p : AProg} {k : Nat} {first cap args : List AV} {F : AFn} {w : AV} (hf : p.fn k = some F) (hn : (first ++ args ++ cap).length = F.nargs)
    (hfc : (AV.fn k first cap).clean = true) (hv : cleans args = true) (hcw : w.clean = true)
    (hw : wpr (den p F.body (init (first ++ args ++ cap)) H.emp) fun o e h' => (o = .normal ∨ o = .ret) ∧ ∃ v, results p F e h' = some v ∧ frz3 h' v = w) :
    icall p (.fn k first cap) args = some w := by
  obtain ⟨v, h', h1, h2⟩ := dcall_of (Q := fun v h' => frz3 h' v = w) hf hn hw
  exact icall_of p hfc hv h1 h2 hcw
theorem icall_ex {p : AProg} {k : Nat} {first cap args : List AV} {F : AFn} {P : AV → Prop} (hf : p.fn k = some F) (hn : (first ++ args ++ cap).length = F.nargs)
    (hfc : (AV.fn k first cap).clean = true) (hv : cleans args = true) (hP : ∀ w, P w → w.clean = true)
    (hw : wpr (den p F.body (init (first ++ args ++ cap)) H.emp) fun o e h' => (o = .normal ∨ o = .ret) ∧ ∃ v, results p F e h' = some v ∧ P (frz3 h' v)) :
    ∃ w, icall p (.fn k first cap) args = some w ∧ P w := by
  obtain ⟨v, h', h1, h2⟩ := dcall_of (Q := fun v h' => P (frz3 h' v)) hf hn hw
  exact ⟨_, icall_of p hfc hv h1 rfl (hP _ h2), h2⟩
end Av
end

section
/- Books as plain data, and how the interpreter has them. -/
set_option linter.unusedSimpArgs false
set_option linter.unnecessarySimpa false
set_option linter.unusedVariables false
namespace Av
open Go (IntKind BinOp UnOp)

/-- a heap: what it had at first (from a to b), and has at last (from c to d) -/
structure Hp where
  a : Int
  b : Int
  c : Int
  d : Int
/-- a load: whence, whither, whose, how much was told -/
structure Mv where
  f : Int
  t : Int
  c : Int
  n : Int
structure Bk where
  hs : List Hp
  ms : List Mv
  l0 : Int
  l1 : Int
  l2 : Int
  l3 : Int

abbrev Hp.v (h : Hp) : AV := .agg [.int .i64 h.a, .int .i64 h.b, .int .i64 h.c, .int .i64 h.d]
abbrev Mv.v (m : Mv) : AV := .agg [.int .i64 m.f, .int .i64 m.t, .int .i64 m.c, .int .i64 m.n]
def hvs (hs : List Hp) : List AV := hs.map Hp.v
def mvs (ms : List Mv) : List AV := ms.map Mv.v
def iv (l : List Int) : List AV := l.map (AV.int .i64)
abbrev Bk.v (b : Bk) : AV := .agg [.sl (hvs b.hs) .shut, .sl (mvs b.ms) .shut, .int .i64 b.l0, .int .i64 b.l1, .int .i64 b.l2, .int .i64 b.l3]
/-- lengths that a machine has -/
def Bk.fit (b : Bk) : Prop := (b.hs.length : Int) ≤ 9223372036854775807 ∧ (b.ms.length : Int) ≤ 9223372036854775807

@[simp] theorem iv_nil : iv [] = [] := rfl
@[simp] theorem iv_cons (x : Int) (l : List Int) : iv (x :: l) = .int .i64 x :: iv l := rfl
@[simp] theorem iv_append (l m : List Int) : iv (l ++ m) = iv l ++ iv m := by simp [iv]
@[simp] theorem w1 : IntKind.wrap .i64 1 = 1 := rfl
@[simp] theorem w2 : IntKind.wrap .i64 2 = 2 := rfl
@[simp] theorem w0 : IntKind.wrap .i64 0 = 0 := rfl
@[simp] theorem hvs_len (l) : (hvs l).length = l.length := by simp [hvs]
@[simp] theorem mvs_len (l) : (mvs l).length = l.length := by simp [mvs]
@[simp] theorem iv_len (l) : (iv l).length = l.length := by simp [iv]
@[simp] theorem hvs_get (l : List Hp) (k : Nat) : (hvs l)[k]? = l[k]?.map Hp.v := by simp [hvs]
@[simp] theorem mvs_get (l : List Mv) (k : Nat) : (mvs l)[k]? = l[k]?.map Mv.v := by simp [mvs]
@[simp] theorem iv_get (l : List Int) (k : Nat) : (iv l)[k]? = l[k]?.map (AV.int .i64) := by simp [iv]
@[simp] theorem hvs_getE (l : List Hp) (k : Nat) (h) : (hvs l)[k]'h = Hp.v (l[k]'(by simpa using h)) := by simp [hvs]
@[simp] theorem mvs_getE (l : List Mv) (k : Nat) (h) : (mvs l)[k]'h = Mv.v (l[k]'(by simpa using h)) := by simp [mvs]
@[simp] theorem iv_getE (l : List Int) (k : Nat) (h) : (iv l)[k]'h = .int .i64 (l[k]'(by simpa using h)) := by simp [iv]
@[simp] theorem hvs_clean (l) : cleans (hvs l) = true := by
  induction l with
  | nil => rfl
  | cons x l ih => simpa [hvs, Hp.v] using ih
@[simp] theorem mvs_clean (l) : cleans (mvs l) = true := by
  induction l with
  | nil => rfl
  | cons x l ih => simpa [mvs, Mv.v] using ih
@[simp] theorem iv_clean (l) : cleans (iv l) = true := by
  induction l with
  | nil => rfl
  | cons x l ih => simpa [iv] using ih
@[simp] theorem iv_shuts (l) : AV.shuts (iv l) = iv l := by
  induction l with
  | nil => rfl
  | cons x l ih => simpa [iv] using ih
@[simp] theorem iv_frzs (h l) : frzs h (iv l) = iv l := by
  induction l with
  | nil => rfl
  | cons x l ih => simpa [iv] using ih
@[simp] theorem iv_flat (l) : (iv l).all AV.flat = true := by
  induction l with
  | nil => rfl
  | cons x l ih => simpa [iv] using ih
@[simp] theorem iv_cell1 (l) : (iv l).all (fun v => decide (v.cells.length = 1)) = true := by
  induction l with
  | nil => rfl
  | cons x l ih => simpa [iv] using ih
@[simp] theorem iv_cell1f (l) : (iv l).all (fun v => decide (v.cells.length = 1) && v.flats) = true := by
  induction l with
  | nil => rfl
  | cons x l ih => simpa [iv] using ih

theorem part_ivall {l : List Int} {n : Nat} (h : l.length = n) : part (iv l) 0 n true = some (.agg (iv l)) := by
  subst h; simp [part, iv, List.take_of_length_le]
theorem part_iv1 {l : List Int} {k : Nat} (h : k < l.length) : part (iv l) k 1 false = some (.int .i64 (l.getD k 0)) := by
  simp [part, h, Nat.succ_le_iff]
theorem splice_iv1 {l : List Int} {k : Nat} (x : Int) (h : k < l.length) : splice (iv l) k [.int .i64 x] = iv (l.set k x) := by
  simp only [splice, iv, List.length_singleton, List.map_set]
  rw [← List.map_take, ← List.map_drop, List.set_eq_take_append_cons_drop]
  simp [h]
theorem aeqs_iv (l m : List Int) (h : l.length = m.length) : aeqs (iv l) (iv m) = some (decide (l = m)) := by
  induction l generalizing m with
  | nil => cases m with
    | nil => rfl
    | cons y m => simp at h
  | cons x l ih => cases m with
    | nil => simp at h
    | cons y m =>
      have := ih m (by simpa using h)
      simp only [iv, List.map_cons, aeqs] at this ⊢
      rw [this]
      by_cases h1 : x = y <;> by_cases h2 : l = m <;> simp [aeq1, h1, h2]
theorem eqk_iv {n : Nat} (l m : List Int) (h : l.length = n) (h' : m.length = n) : eqk (some n) (.agg (iv l)) (.agg (iv m)) = some (decide (l = m)) := by
  simp only [eqk, iv_len, h, h', and_self, if_true, aeqs_iv l m (h.trans h'.symm)]
theorem all_take {α : Type} (l : List α) (f : α → Bool) (k : Nat) (h : k < l.length) : (l.take (k + 1)).all f = ((l.take k).all f && f l[k]) := by
  rw [List.take_add_one, List.getElem?_eq_getElem h, List.all_append]; simp
theorem i64 (n : Nat) (h : (n : Int) ≤ 9223372036854775807 := by omega) (m : Nat := n) (hm : m < n := by omega) : IntKind.wrap .i64 ((m : Int) + 1) = ((m + 1 : Nat) : Int) := wrap_id (by omega) (by omega)

/-- is a heap what it may be? -/
def Hp.ok (h : Hp) : Bool := decide ((0 ≤ h.a ∧ h.a ≤ h.b ∧ h.b ≤ 60) ∧ h.b - h.a ≤ 4 ∧ 0 ≤ h.c ∧ h.c ≤ h.d ∧ h.d ≤ 99)
def isEnd (n : Nat) (x : Int) : Bool := decide (x = -1 ∨ 0 ≤ x ∧ x < n)
def Mv.ok (n : Nat) (m : Mv) : Bool := isEnd n m.f && isEnd n m.t && decide (m.f ≠ m.t ∧ (0 ≤ m.c ∧ m.c ≤ 3) ∧ 0 ≤ m.n ∧ m.n ≤ 6)
def lieOk (n : Int) : Bool := decide (0 ≤ n ∧ n ≤ 2)
def Bk.ok (b : Bk) : Bool := decide (1 ≤ b.hs.length ∧ b.hs.length ≤ 4 ∧ b.ms.length ≤ 5) && b.hs.all Hp.ok && b.ms.all (Mv.ok b.hs.length) && (lieOk b.l0 && lieOk b.l1 && lieOk b.l2 && lieOk b.l3)
end Av
end

section
/- More rules. -/
set_option linter.unusedSimpArgs false
set_option linter.unusedVariables false
namespace Av
open Go (IntKind BinOp UnOp)
section
variable (p : AProg)
def olk2F (z : AV) (h : H) : Option (Option AV) → Option (AV × H)
  | some (some v) => some (.tup [v, .bool true], h)
  | some none => some (.tup [z, .bool false], h)
  | none => none
@[simp] theorem olk2F_s (z h v) : olk2F z h (some (some v)) = some (.tup [v, .bool true], h) := rfl
@[simp] theorem olk2F_n (z h) : olk2F z h (some none) = some (.tup [z, .bool false], h) := rfl
def olk2O (n : Nat) (z k : AV) (h : H) : Option AObj → Option (AV × H)
  | some (.mp es) => olk2F z h (findk n k es)
  | _ => none
@[simp] theorem olk2O_m (n z k h es) : olk2O n z k h (some (.mp es)) = olk2F z h (findk n k es) := rfl
def olk2 (h : H) (n : Nat) (z : AV) : Option AV → Option AV → Option (AV × H)
  | some (.mp b), some k => if keyLen n k = false then none else olk2O n z k h (h.get b)
  | _, _ => none
@[simp] theorem olk2_m (h n z b k) : olk2 h n z (some (.mp b)) (some k) = if keyLen n k = false then none else olk2O n z k h (h.get b) := rfl
@[simp] theorem rh_lookup2 (e h n z m k) : stepH p e h (.lookup2 n z m k) = olk2 h n z (ev p e m) (ev p e k) := by
  rw [stepH]
  cases ev p e m with
  | none => rfl
  | some m =>
    cases ev p e k with
    | none => cases m <;> rfl
    | some k =>
      cases m with
      | mp b =>
        simp only [olk2]
        split
        · rfl
        · cases h.get b with
          | none => rfl
          | some x =>
            cases x with
            | mp es =>
              simp only [olk2O]
              cases findk n k es with
              | none => rfl
              | some y => cases y <;> rfl
            | _ => rfl
      | _ => rfl
def olk1F (z : AV) (h : H) : Option (Option AV) → Option (AV × H)
  | some (some v) => some (v, h)
  | some none => some (z, h)
  | none => none
@[simp] theorem olk1F_s (z h v) : olk1F z h (some (some v)) = some (v, h) := rfl
@[simp] theorem olk1F_n (z h) : olk1F z h (some none) = some (z, h) := rfl
def olk1O (n : Nat) (z k : AV) (h : H) : Option AObj → Option (AV × H)
  | some (.mp es) => olk1F z h (findk n k es)
  | _ => none
@[simp] theorem olk1O_m (n z k h es) : olk1O n z k h (some (.mp es)) = olk1F z h (findk n k es) := rfl
def olk1 (h : H) (n : Nat) (z : AV) : Option AV → Option AV → Option (AV × H)
  | some (.mp b), some k => if keyLen n k = false then none else olk1O n z k h (h.get b)
  | _, _ => none
@[simp] theorem olk1_m (h n z b k) : olk1 h n z (some (.mp b)) (some k) = if keyLen n k = false then none else olk1O n z k h (h.get b) := rfl
@[simp] theorem rh_lookup (e h n z m k) : stepH p e h (.lookup n z m k) = olk1 h n z (ev p e m) (ev p e k) := by
  rw [stepH]
  cases ev p e m with
  | none => rfl
  | some m =>
    cases ev p e k with
    | none => cases m <;> rfl
    | some k =>
      cases m with
      | mp b =>
        simp only [olk1]
        split
        · rfl
        · cases h.get b with
          | none => rfl
          | some x =>
            cases x with
            | mp es =>
              simp only [olk1O]
              cases findk n k es with
              | none => rfl
              | some y => cases y <;> rfl
            | _ => rfl
      | _ => rfl
end
@[simp] theorem shr_get (e : Env) (s n k : Nat) : (e.shr s n) k = if k = s then .ptr n 0 else unl s (e k) := rfl
@[simp] theorem unl_l (s s' g o) : unl s (.lptr s' g o) = if s' = s then .junk else .lptr s' g o := rfl
@[simp] theorem unl_i (s k n) : unl s (.int k n) = .int k n := rfl
@[simp] theorem unl_b (s b) : unl s (.bool b) = .bool b := rfl
@[simp] theorem unl_a (s b) : unl s (.agg b) = .agg b := rfl
@[simp] theorem unl_t (s b) : unl s (.tup b) = .tup b := rfl
@[simp] theorem unl_s (s b k) : unl s (.sl b k) = .sl b k := rfl
@[simp] theorem unl_m (s a b c d) : unl s (.msl a b c d) = .msl a b c d := rfl
@[simp] theorem unl_p (s b k) : unl s (.ptr b k) = .ptr b k := rfl
@[simp] theorem unl_c (s b) : unl s (.cptr b) = .cptr b := rfl
@[simp] theorem unl_f (s a b c) : unl s (.fn a b c) = .fn a b c := rfl
@[simp] theorem unl_mp (s a) : unl s (.mp a) = .mp a := rfl
@[simp] theorem unl_mv (s a b) : unl s (.mv a b) = .mv a b := rfl
@[simp] theorem unl_lb (s a b) : unl s (.lbox a b) = .lbox a b := rfl
@[simp] theorem unl_fb (s a b) : unl s (.fbox a b) = .fbox a b := rfl
@[simp] theorem unl_j (s) : unl s .junk = .junk := rfl
@[simp] theorem unl_nf (s) : unl s .nilf = .nilf := rfl
end Av
end
