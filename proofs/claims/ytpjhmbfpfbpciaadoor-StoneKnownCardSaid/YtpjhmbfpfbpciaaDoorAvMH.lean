/- The lowered text is the translation, arguments are opened: no condition. -/
import Derived.Test.YtpjhmbfpfbpciaaDoorProg
import Derived.KernelRfl
import Derived.WalkKit
import Derived.ProofKit
import Derived.RowKit3
import Derived.ChangeStays
import Derived.ChangeBook
import Derived.Eval
import Derived.Test.YtpjhmbfpfbpciaaDoorCards
import Derived.Test.YtpjhmbfpfbpciaaDoorTie
import Derived.OpenShut
import Derived.Deep.DeepHandedRow
import Derived.Lib.LaidTab
import Derived.LaidMore
import Derived.Test.YtpjhmbfpfbpciaaDoorAvMD
import Derived.Test.YtpjhmbfpfbpciaaDoorAvME
import Derived.Test.YtpjhmbfpfbpciaaDoorAvMG
set_option linter.all false
set_option linter.unusedSectionVars false
set_option linter.unusedVariables false
set_option linter.unusedSimpArgs false
set_option linter.unnecessarySimpa false
section
/- The lowered program, and that each text of it is one of the translation. -/
namespace Av
open Go Go.Proofs
set_option maxRecDepth 100000 in
theorem chkAll : okAt Tryd.prog tbl = true := by kernel_rfl
set_option maxRecDepth 100000 in
theorem chkAll2 : okAt2 Tryd.prog tbl2 = true := by kernel_rfl
theorem prOK : ProgOK Tryd.prog pr := progOK_of2 (t := tbl) (t2 := tbl2) (fun f => rfl) chkAll chkAll2
theorem prGl : ∀ g, cleans (pr.glob g) = true := by
  intro g
  simp only [pr]
  split <;> rfl
end Av
end

section
/- A StoneBook that is handed in, as the interpreter's value. -/
namespace Av
open Go Go.Proofs Go.ChangeShapes Go.WideShapes Go.Deep

set_option linter.constructorNameAsVariable false
set_option maxRecDepth 20000

theorem u3 : Tryd.prog.underlying 3 = some (.int .i64) := by kernel_rfl
theorem t3 : IntT Tryd.prog 3 1 := .int u3
theorem c3 : Tryd.prog.cellsOf 3 = 1 := by kernel_rfl
theorem u33 : Tryd.prog.underlying 33 = some (.struct (Tryd.prog.fieldsOf 33)) := by kernel_rfl
theorem kc33 : Tryd.prog.cellsOf 33 = 2 := by kernel_rfl
theorem t33 : IntT Tryd.prog 33 2 := .str u33 kc33 fun j hj => by
  have h0 : fieldIs Tryd.prog 33 0 3 0 = true := by kernel_rfl
  have h1 : fieldIs Tryd.prog 33 1 3 1 = true := by kernel_rfl
  match j, hj with
  | 0, _ => obtain ⟨f, q1, q2, q3⟩ := fieldIs_ok h0; exact ⟨0, f, 1, q1, q2 ▸ t3, q2 ▸ c3, by omega, by omega⟩
  | 1, _ => obtain ⟨f, q1, q2, q3⟩ := fieldIs_ok h1; exact ⟨1, f, 1, q1, q2 ▸ t3, q2 ▸ c3, by omega, by omega⟩
theorem u64 : Tryd.prog.underlying 64 = some (.struct (Tryd.prog.fieldsOf 64)) := by kernel_rfl
theorem c64 : Tryd.prog.cellsOf 64 = 4 := by kernel_rfl
theorem t64 : IntT Tryd.prog 64 4 := .str u64 c64 fun j hj => by
  have h0 : fieldIs Tryd.prog 64 0 33 0 = true := by kernel_rfl
  have h1 : fieldIs Tryd.prog 64 1 33 2 = true := by kernel_rfl
  by_cases hlt : j < 2
  · obtain ⟨f, q1, q2, q3⟩ := fieldIs_ok h0; exact ⟨0, f, 2, q1, q2 ▸ t33, q2 ▸ kc33, by omega, by omega⟩
  · obtain ⟨f, q1, q2, q3⟩ := fieldIs_ok h1; exact ⟨1, f, 2, q1, q2 ▸ t33, q2 ▸ kc33, by omega, by omega⟩
theorem u58 : Tryd.prog.underlying 58 = some (.struct (Tryd.prog.fieldsOf 58)) := by kernel_rfl
theorem c58 : Tryd.prog.cellsOf 58 = 4 := by kernel_rfl
theorem t58 : IntT Tryd.prog 58 4 := .str u58 c58 fun j hj => by
  have h0 : fieldIs Tryd.prog 58 0 3 0 = true := by kernel_rfl
  have h1 : fieldIs Tryd.prog 58 1 3 1 = true := by kernel_rfl
  have h2 : fieldIs Tryd.prog 58 2 3 2 = true := by kernel_rfl
  have h3 : fieldIs Tryd.prog 58 3 3 3 = true := by kernel_rfl
  match j, hj with
  | 0, _ => obtain ⟨f, q1, q2, q3⟩ := fieldIs_ok h0; exact ⟨0, f, 1, q1, q2 ▸ t3, q2 ▸ c3, by omega, by omega⟩
  | 1, _ => obtain ⟨f, q1, q2, q3⟩ := fieldIs_ok h1; exact ⟨1, f, 1, q1, q2 ▸ t3, q2 ▸ c3, by omega, by omega⟩
  | 2, _ => obtain ⟨f, q1, q2, q3⟩ := fieldIs_ok h2; exact ⟨2, f, 1, q1, q2 ▸ t3, q2 ▸ c3, by omega, by omega⟩
  | 3, _ => obtain ⟨f, q1, q2, q3⟩ := fieldIs_ok h3; exact ⟨3, f, 1, q1, q2 ▸ t3, q2 ▸ c3, by omega, by omega⟩
theorem u24 : Tryd.prog.underlying 24 = some (.array 4 3) := by kernel_rfl
theorem kc24 : Tryd.prog.cellsOf 24 = 4 := by kernel_rfl
theorem t24 : IntT Tryd.prog 24 4 := IntT.arr (n := 4) (m := 1) u24 t3 c3 (by omega) kc24
theorem u22 : Tryd.prog.underlying 22 = some (.slice 64) := by kernel_rfl
theorem u23 : Tryd.prog.underlying 23 = some (.slice 58) := by kernel_rfl
theorem u26 : Tryd.prog.underlying 26 = some (.struct (Tryd.prog.fieldsOf 26)) := by kernel_rfl
theorem kc26 : Tryd.prog.cellsOf 26 = 6 := by kernel_rfl
theorem c22 : Tryd.prog.cellsOf 22 = 1 := by kernel_rfl
theorem kc23 : Tryd.prog.cellsOf 23 = 1 := by kernel_rfl
theorem ct26 : Tryd.prog.cellTypes Tryd.prog.depth 26 = some [22, 23, 3, 3, 3, 3] := by kernel_rfl

/-- a book of heaps and moves (rows of four) and four lies -/
def bookV (hs ms : List (List Int)) (ls : List Int) : AV := .agg (.sl (hs.map (elem 4)) .shut :: .sl (ms.map (elem 4)) .shut :: ints ls)
def wfRows (n : Nat) (rs : List (List Int)) : Prop := (rs.length : Int) ≤ 9223372036854775807 ∧ ∀ r ∈ rs, r.length = n ∧ ∀ z ∈ r, (Lit.int .i64 z).wf = true
def wfInts (n : Nat) (r : List Int) : Prop := r.length = n ∧ ∀ z ∈ r, (Lit.int .i64 z).wf = true

theorem spot_of {W : World} {base t e : Nat} {r : Go.Reach} {v : Value} (ht : Tryd.prog.underlying t = some (.slice e)) (h : Cell.okWide Tryd.prog W r base t v) : ∀ a len cap, v = .slice (some a) len cap → a.spot = none ∧ (cap : Int) ≤ 9223372036854775807 := by
  rintro a len cap rfl
  unfold Cell.okWide at h
  rw [ht] at h
  simp only [Cell.ok, ht] at h
  exact ⟨h.2.2.2.1, h.2.1⟩

theorem book_open {H : Type} {enc : TypeId × Value → H} {W : World} {base b0 : Nat} {spare : Nat → Bool} {held : Bool} {r : Go.Reach} {v : Value} {d : DataW H} {pl : List MemPlace}
    (hv : Value.okWide Tryd.prog W r b0 26 v) (h : DataW.Trod enc Tryd.prog W base spare held 26 v d pl) :
    ∃ hs ms ls, wfRows 4 hs ∧ wfRows 4 ms ∧ wfInts 4 ls ∧ VR (Gh.start W) (bookV hs ms ls) v := by
  unfold Value.okWide at hv
  rw [u26] at hv
  simp only at hv
  obtain ⟨cs, rfl, hsz, ts, hts, _, hcell⟩ := hv
  rw [ct26] at hts; cases hts
  rw [kc26] at hsz
  obtain ⟨l⟩ := cs
  match l, hsz with
  | [v0, v1, v2, v3, v4, v5], _ =>
    obtain ⟨fuel, hf⟩ := h
    obtain ⟨xs, n, _, _, _, hlen, hg⟩ := DataW.trod_struct u26 hf
    have f0 : fieldIs Tryd.prog 26 0 22 0 = true := by kernel_rfl
    have f1 : fieldIs Tryd.prog 26 1 23 1 = true := by kernel_rfl
    have f2 : fieldIs Tryd.prog 26 2 24 2 = true := by kernel_rfl
    obtain ⟨g0, q1, q2, q3⟩ := fieldIs_ok f0
    obtain ⟨g1, q4, q5, q6⟩ := fieldIs_ok f1
    obtain ⟨g2, q7, q8, q9⟩ := fieldIs_ok f2
    have e0 := hg 0 g0 q1
    have e1 := hg 1 g1 q4
    have e2 := hg 2 g2 q7
    have hl0 : 0 < xs.length := by rw [hlen]; exact (Array.getElem?_eq_some_iff.1 q1).1
    have hl1 : 1 < xs.length := by rw [hlen]; exact (Array.getElem?_eq_some_iff.1 q4).1
    have hl2 : 2 < xs.length := by rw [hlen]; exact (Array.getElem?_eq_some_iff.1 q7).1
    rw [q2, q3, c22, List.getElem?_eq_getElem hl0] at e0
    rw [q5, q6, kc23, List.getElem?_eq_getElem hl1] at e1
    rw [q8, q9, kc24, List.getElem?_eq_getElem hl2] at e2
    simp only [Value.cells, List.drop_zero, List.drop_succ_cons, List.take_succ_cons, List.take_zero] at e0 e1 e2
    obtain ⟨u0, hu0, k0⟩ := hcell 0 v0 rfl
    obtain ⟨u1, hu1, k1⟩ := hcell 1 v1 rfl
    simp at hu0 hu1
    subst hu0; subst hu1
    obtain ⟨hs, a0, a1, a2⟩ := sl_read u22 t64 c64 (by omega) (spot_of u22 k0) e0
    obtain ⟨ms, a5, a3, a4⟩ := sl_read u23 t58 c58 (by omega) (spot_of u23 k1) e1
    obtain ⟨b1, b2⟩ := t24 _ _ _ _ _ _ _ _ _ e2
    obtain ⟨ls, b3, b4, b5, b6⟩ := ints_of (S := Gh.start W) b2
    refine ⟨hs, ms, ls, ⟨a0, a1⟩, ⟨a5, a3⟩, ⟨b3.trans b1, b6⟩, ?_⟩
    have := VR.agg' (VRs.cons a2 (VRs.cons a4 b5))
    simpa [bookV] using this
end Av
end

section
/- From the interpreter's answer to a law's call. -/
namespace Av
open Go Go.Proofs

set_option linter.constructorNameAsVariable false
set_option maxRecDepth 20000

theorem grown_of {S S' : Gh} {H' : Av.H} {W w' : World} (h : Keep S Av.H.emp W S' H' w') (hS : ∀ c, ¬ own S Av.H.emp c) : Go.RowKit.Grown W w' := by
  refine ⟨⟨h.sm.1, h.sm.2.1, fun i hi => ?_⟩, h.sm.2.2, h.sz⟩
  have := h.old i hi (hS i)
  rw [this]
  cases hq : W.heap[i]? with
  | none => rfl
  | some o => cases o <;> first | rfl | exact ⟨rfl, rfl, rfl, fun _ _ => rfl⟩ | exact .inr ⟨rfl, rfl⟩

theorem start_own {W : World} (c : Nat) : ¬ own (Gh.start W) Av.H.emp c := by
  rintro (⟨b, o, h1, _⟩ | ⟨t, i, h1, _⟩)
  · cases h1
  · cases h1

theorem start_ok {W : World} (h00 : W.cell? ⟨0, 0, none⟩ = some (.int .i64 (-1))) (h01 : W.cell? ⟨0, 1, none⟩ = some (.int .i64 (-1)))
    (h10 : W.cell? ⟨1, 0, none⟩ = some (.func (.func 118) #[] #[])) (h11 : W.cell? ⟨1, 1, none⟩ = some (.func (.func 120) #[] #[])) : WR (chkR Tryd.prog) pr.glob (Gh.start W) Av.H.emp W := by
  refine .start fun g i hi => ?_
  match g with
  | 0 =>
    match i, hi with
    | 0, _ => exact ⟨_, h00, .int _ _⟩
    | 1, _ => exact ⟨_, h01, .int _ _⟩
  | 1 =>
    match i, hi with
    | 0, _ => exact ⟨_, h10, .fn 118 [] [] #[] #[] rfl rfl (by simp) (by simp)⟩
    | 1, _ => exact ⟨_, h11, .fn 120 [] [] #[] #[] rfl rfl (by simp) (by simp)⟩
  | g + 2 => exact absurd hi (Nat.not_lt_zero _)

/-- A law that the interpreter answers with true. -/
theorem law_ok {W : World} (hw : WR (chkR Tryd.prog) pr.glob (Gh.start W) Av.H.emp W) {k : Nat} (hk : k < 1000) {vs : List AV} {h' : Av.H} (hx : dcall pr (.fn k [] []) vs Av.H.emp = some (.bool true, h')) {args : Array Value} (hA : VRs (Gh.start W) vs args.toList) :
    Calls Tryd.prog k args W fun e w' => e = .returned (.bool true) ∧ Go.RowKit.Grown W w' ∧ ∀ i, i < W.heap.size → w'.heap[i]? = W.heap[i]? := by
  have hs := sound (P := Tryd.prog) (p := pr) (by kernel_rfl) prGl prOK hx hw hA
  rw [Nat.mod_eq_of_lt hk] at hs
  refine hs.mono fun e w' he => ?_
  obtain ⟨u, S', rfl, hV, _, hK⟩ := he
  rw [hV.bool_inv]
  exact ⟨rfl, grown_of hK start_own, fun i hi => hK.old i hi (start_own i)⟩

theorem laidOut : laidOutB Tryd.prog = true := by kernel_rfl
/-- An argument reads as it did. -/
theorem trod_stay1 {H : Type} {enc : TypeId × Value → H} {W W' : World} {sp : Nat → Bool} {t : Nat} {v : Value} {d : DataW H} {pl : List MemPlace} (hr : Tryd.prog.readableRec t = true) (hrow : t < Tryd.prog.types.size)
    (h : DataW.Trod enc Tryd.prog W 0 (fun _ => true) true t v d pl) (hs : ∀ i, i < W.heap.size → W'.heap[i]? = W.heap[i]?) (hlt : ∀ p ∈ pl, p.block < W.heap.size) (hsp : ∀ p ∈ pl, sp p.block = true) : DataW.Trod enc Tryd.prog W' 0 sp true t v d pl := by
  obtain ⟨fuel, hf⟩ := h
  refine ⟨fuel, DataW.trod_stays (kids_book laidOut hr) (book_sized hr) (fun h => by cases h) ⟨hrow, book_self t⟩ hf (fun p hp => ?_) hsp⟩
  have := hlt p hp
  cases p with
  | cell b off => simp only [World.sameAt, World.cell?]; rw [hs b this]
  | map b => exact hs b this
end Av
end

section
/- What every row wants: arguments opened, the two globals, a world for the witness. -/
namespace Av
open Go Go.Proofs Go.Proofs.YtpjhmbfpfbpciaaDoor Go.ChangeShapes Go.WideShapes Go.ChangeAt Go.RowKit

set_option linter.constructorNameAsVariable false
set_option maxRecDepth 20000

/-- an array of numbers that is handed in -/
theorem arr_open {H : Type} {enc : TypeId × Value → H} {W : World} {base b0 : Nat} {spare : Nat → Bool} {held : Bool} {r : Go.Reach} {t n e : Nat} {v : Value} {d : DataW H} {pl : List MemPlace}
    (hu : Tryd.prog.underlying t = some (.array n e)) (ht : IntT Tryd.prog t n) (hv : Value.okWide Tryd.prog W r b0 t v) (h : DataW.Trod enc Tryd.prog W base spare held t v d pl) :
    ∃ ns, wfInts n ns ∧ VR (Gh.start W) (.agg (ints ns)) v := by
  unfold Value.okWide at hv
  rw [hu] at hv
  simp only at hv
  obtain ⟨cs, rfl, _⟩ := hv
  obtain ⟨fuel, hf⟩ := h
  obtain ⟨b1, b2⟩ := ht _ _ _ _ _ _ _ _ _ hf
  obtain ⟨ns, b3, b4, b5, b6⟩ := ints_of (S := Gh.start W) b2
  refine ⟨ns, ⟨b3.trans b1, b6⟩, ?_⟩
  have := VR.agg' b5
  simpa [Value.cells] using this

theorem u27 : Tryd.prog.underlying 27 = some (.array 3 3) := by kernel_rfl
theorem t27 : IntT Tryd.prog 27 3 := IntT.arr (n := 3) (m := 1) u27 t3 c3 (by omega) (by kernel_rfl)
theorem rec26 : Tryd.prog.readableRec 26 = true := by kernel_rfl
theorem rec27 : Tryd.prog.readableRec 27 = true := by kernel_rfl
theorem row26 : (26 : Nat) < Tryd.prog.types.size := of_decide_eq_true (by kernel_rfl)
theorem row27 : (27 : Nat) < Tryd.prog.types.size := of_decide_eq_true (by kernel_rfl)

/-- what the two globals hold -/
def Globs (W : World) : Prop := W.cell? ⟨0, 0, none⟩ = some (.int .i64 (-1)) ∧ W.cell? ⟨0, 1, none⟩ = some (.int .i64 (-1)) ∧
  W.cell? ⟨1, 0, none⟩ = some (.func (.func 118) #[] #[]) ∧ W.cell? ⟨1, 1, none⟩ = some (.func (.func 120) #[] #[])


theorem gNow : Tryd.prog.globalNamed "macadam/stone.nowhere" = some 0 := by kernel_rfl
theorem gEnds : Tryd.prog.globalNamed "macadam/stone.ends" = some 1 := by kernel_rfl
/-- the rows' list -/
def laidL : List (String × DataW Unit) := [("macadam/stone.ends", Rows.laid_macadam_stone_ends), ("macadam/stone.nowhere", Rows.laid_macadam_stone_nowhere)]

theorem u117 : Tryd.prog.underlying 117 = some (.struct (Tryd.prog.fieldsOf 117)) := by kernel_rfl
theorem tyNow : (Tryd.prog.globals[0]?).map (·.type) = some 117 := by kernel_rfl
theorem tyEnds : (Tryd.prog.globals[1]?).map (·.type) = some 121 := by kernel_rfl
theorem k121 : Tryd.prog.cellsOf 121 = 2 := by kernel_rfl
theorem kf : Tryd.prog.cellsOf 120 = 1 := by kernel_rfl
theorem k117 : Tryd.prog.cellsOf 117 = 2 := by kernel_rfl
theorem globs_of {W : World} (h : laidMetH Tryd.prog laidL W) : Globs W := by
  have h1 := h.funcs (n := "macadam/stone.ends") (List.mem_cons_self ..)
  have h2 : laidMet Tryd.prog [("macadam/stone.nowhere", Rows.laid_macadam_stone_nowhere)] W := h.1
  have g1 : W.cell? ⟨1, 0, none⟩ = some (.func (.func 118) #[] #[]) ∧ W.cell? ⟨1, 1, none⟩ = some (.func (.func 120) #[] #[]) := by
    obtain ⟨g, t, cs, fuel, p, hg, ht, hv, hd⟩ := h1
    obtain rfl := Option.some.inj (gEnds.symm.trans hg)
    obtain rfl := Option.some.inj (tyEnds.symm.trans ht)
    have hd' : DataW.trod (funcToken Tryd.prog) Tryd.prog W 0 (fun _ => true) true fuel 121 cs.toList = some (.agg [.held [40, 109, 97, 99, 97, 100, 97, 109, 47, 115, 116, 111, 110, 101, 46, 109, 111, 118, 101, 41, 46, 99, 111, 109, 105, 110, 103], .held [40, 109, 97, 99, 97, 100, 97, 109, 47, 115, 116, 111, 110, 101, 46, 109, 111, 118, 101, 41, 46, 103, 111, 105, 110, 103]], p) := hd
    obtain ⟨xs, m, _, hx, hlen, hxl, hel⟩ := DataW.trod_array Tryd.underlying121 hd'
    rw [k121] at hlen
    obtain ⟨l⟩ := cs
    match l, hlen with
    | [a0, a1], _ =>
      match xs, hxl with
      | [x0, x1], _ =>
        simp only [List.map_cons, List.map_nil, Prod.mk.injEq, DataW.agg.injEq, List.cons.injEq, and_true] at hx
        obtain ⟨⟨e0, e1⟩, _⟩ := hx
        have q0 := hel 0 (by omega)
        have q1 := hel 1 (by omega)
        rw [kf] at q0 q1
        simp only [Nat.zero_mul, Nat.one_mul, List.drop_zero, List.drop_succ_cons, List.take_succ_cons, List.take_zero, List.getElem?_cons_zero, List.getElem?_cons_succ] at q0 q1
        obtain ⟨x00, x01⟩ := x0
        obtain ⟨x10, x11⟩ := x1
        simp only at e0 e1
        subst e0 e1
        obtain rfl := func_of_trod (f0 := 118) Tryd.underlying120 (by kernel_rfl) q0
        obtain rfl := func_of_trod (f0 := 120) Tryd.underlying120 (by kernel_rfl) q1
        exact ⟨World.var?_cell gEnds hv 0, World.var?_cell gEnds hv 1⟩
  have g2 : W.cell? ⟨0, 0, none⟩ = some (.int .i64 (-1)) ∧ W.cell? ⟨0, 1, none⟩ = some (.int .i64 (-1)) := by
    obtain ⟨ps, ⟨g, t, cs, fuel, p, q, hg, ht, hv, hd, _⟩, _⟩ := h2
    obtain rfl := Option.some.inj (gNow.symm.trans hg)
    obtain rfl := Option.some.inj (tyNow.symm.trans ht)
    have hd' : DataW.trod (fun _ => ()) Tryd.prog W 0 (fun _ => true) false fuel 117 cs.toList = some (.agg [.lit (.int .i64 (-1)), .lit (.int .i64 (-1))], p) := hd
    obtain ⟨xs, m, _, hx, hlen, hxl, hel⟩ := DataW.trod_struct u117 hd'
    rw [k117] at hlen
    have f0 : fieldIs Tryd.prog 117 0 3 0 = true := by kernel_rfl
    have f1 : fieldIs Tryd.prog 117 1 3 1 = true := by kernel_rfl
    obtain ⟨y0, r1, r2, r3⟩ := fieldIs_ok f0
    obtain ⟨y1, r4, r5, r6⟩ := fieldIs_ok f1
    have q0 := hel 0 y0 r1
    have q1 := hel 1 y1 r4
    rw [r2, r3, c3] at q0
    rw [r5, r6, c3] at q1
    obtain ⟨l⟩ := cs
    have hsz : (Tryd.prog.fieldsOf 117).size = 2 := by kernel_rfl
    rw [hsz] at hxl
    match l, hlen with
    | [a0, a1], _ =>
      match xs, hxl with
      | [x0, x1], _ =>
        simp only [List.map_cons, List.map_nil, Prod.mk.injEq, DataW.agg.injEq, List.cons.injEq, and_true] at hx
        obtain ⟨⟨e0, e1⟩, _⟩ := hx
        simp only [List.drop_zero, List.drop_succ_cons, List.take_succ_cons, List.take_zero, List.getElem?_cons_zero, List.getElem?_cons_succ] at q0 q1
        obtain ⟨n0, s0, s1, _⟩ := DataW.trod_int u3 q0
        obtain ⟨n1, s2, s3, _⟩ := DataW.trod_int u3 q1
        rw [s1] at e0
        rw [s3] at e1
        simp only [DataW.lit.injEq, Lit.int.injEq, true_and] at e0 e1
        simp only [List.cons.injEq, and_true] at s0 s2
        subst e0 e1 s0 s2
        exact ⟨World.var?_cell gNow hv 0, World.var?_cell gNow hv 1⟩
  exact ⟨g2.1, g2.2, g1.1, g1.2⟩

theorem ints_iv (zs : List Int) : ints zs = iv zs := rfl
def toHp (r : List Int) : Hp := ⟨r.getD 0 0, r.getD 1 0, r.getD 2 0, r.getD 3 0⟩
def toMv (r : List Int) : Mv := ⟨r.getD 0 0, r.getD 1 0, r.getD 2 0, r.getD 3 0⟩
theorem bk_of {hs ms : List (List Int)} {ls : List Int} (h1 : wfRows 4 hs) (h2 : wfRows 4 ms) (h3 : wfInts 4 ls) : ∃ b : Bk, b.fit ∧ bookV hs ms ls = b.v := by
  obtain ⟨h3, _⟩ := h3
  match ls, h3 with
  | [l0, l1, l2, l3], _ =>
    refine ⟨⟨hs.map toHp, ms.map toMv, l0, l1, l2, l3⟩, ⟨by simpa using h1.1, by simpa using h2.1⟩, ?_⟩
    have e1 : hs.map (elem 4) = hvs (hs.map toHp) := by
      rw [hvs, List.map_map]
      refine List.map_congr_left fun r hr => ?_
      obtain ⟨hl, _⟩ := h1.2 r hr
      match r, hl with
      | [a, b, c, d], _ => rfl
    have e2 : ms.map (elem 4) = mvs (ms.map toMv) := by
      rw [mvs, List.map_map]
      refine List.map_congr_left fun r hr => ?_
      obtain ⟨hl, _⟩ := h2.2 r hr
      match r, hl with
      | [a, b, c, d], _ => rfl
    simp [bookV, e1, e2, ints]
theorem sl_of {rows : List (List Int)} (h : wfRows 1 rows) : ∃ l : List Int, (l.length : Int) ≤ 9223372036854775807 ∧ AV.sl (rows.map (elem 1)) .shut = .sl (iv l) .shut := by
  refine ⟨rows.map fun r => r.getD 0 0, by simpa using h.1, ?_⟩
  congr 1
  rw [iv, List.map_map]
  refine List.map_congr_left fun r hr => ?_
  obtain ⟨hl, _⟩ := h.2 r hr
  match r, hl with
  | [a], _ => rfl

theorem sl_cells {W : World} {b0 t e : Nat} {r : Go.Reach} {v : Value} (ht : Tryd.prog.underlying t = some (.slice e)) (h : Value.okWide Tryd.prog W r b0 t v) :
    Cell.okWide Tryd.prog W r b0 t v ∧ v.cells.toList = [v] := by
  unfold Value.okWide at h
  rw [ht] at h
  refine ⟨h, ?_⟩
  cases v with
  | agg cs =>
    simp only at h
    unfold Cell.okWide at h
    rw [ht] at h
    simp only [Cell.ok, ht] at h
  | _ => rfl

theorem ownK : ownKnob Tryd.prog.godebug = none := by kernel_rfl
/-- a world for the witness: the settled one, both globals holding what their initialisers lay -/
noncomputable def laidWorld0 (os : Os) : World :=
  { World.holding Tryd.prog os ⟨#[], #[], []⟩ with heap := (World.holding Tryd.prog os ⟨#[], #[], []⟩).heap.modify 0 fun
      | .cells _ t frozen => .cells #[.int .i64 (-1), .int .i64 (-1)] t frozen
      | o => o }
noncomputable def laidWorld (os : Os) : World :=
  { laidWorld0 os with heap := (laidWorld0 os).heap.modify 1 fun
      | .cells _ t frozen => .cells #[.func (.func 118) #[] #[], .func (.func 120) #[] #[]] t frozen
      | o => o }
def bookZ : Value := .agg #[.slice none 0 0, .slice none 0 0, .int .i64 0, .int .i64 0, .int .i64 0, .int .i64 0]
def bookD {H : Type} : DataW H := .agg [.nil, .nil, .agg [.lit (.int .i64 0), .lit (.int .i64 0), .lit (.int .i64 0), .lit (.int .i64 0)]]
theorem want26 : Tryd.prog.wantsStandIn 26 = false := by kernel_rfl
theorem want3 : Tryd.prog.wantsStandIn 3 = false := by kernel_rfl
theorem want41 : Tryd.prog.wantsStandIn 41 = false := by kernel_rfl
theorem want24 : Tryd.prog.wantsStandIn 24 = false := by kernel_rfl
theorem want27 : Tryd.prog.wantsStandIn 27 = false := by kernel_rfl
theorem want39 : Tryd.prog.wantsStandIn 39 = false := by kernel_rfl
theorem u39 : Tryd.prog.underlying 39 = some (.array 2 3) := by kernel_rfl
theorem t39 : IntT Tryd.prog 39 2 := IntT.arr (n := 2) (m := 1) u39 t3 c3 (by omega) (by kernel_rfl)
theorem u41 : Tryd.prog.underlying 41 = some (.slice 3) := by kernel_rfl
theorem rec39 : Tryd.prog.readableRec 39 = true := by kernel_rfl
theorem rec24 : Tryd.prog.readableRec 24 = true := by kernel_rfl
theorem rec41 : Tryd.prog.readableRec 41 = true := by kernel_rfl
theorem rec3 : Tryd.prog.readableRec 3 = true := by kernel_rfl
theorem row39 : (39 : Nat) < Tryd.prog.types.size := of_decide_eq_true (by kernel_rfl)
theorem row24 : (24 : Nat) < Tryd.prog.types.size := of_decide_eq_true (by kernel_rfl)
theorem row41 : (41 : Nat) < Tryd.prog.types.size := of_decide_eq_true (by kernel_rfl)
theorem row3 : (3 : Nat) < Tryd.prog.types.size := of_decide_eq_true (by kernel_rfl)
end Av
end
