/- The lowered text is the translation, arguments are opened: no condition. -/
import Derived.Test.YtnlflblfonkapaaGreatDoorProg
import Derived.KernelRfl
import Derived.WalkKit
import Derived.ProofKit
import Derived.RowKit3
import Derived.ChangeStays
import Derived.ChangeBook
import Derived.Eval
import Derived.Test.YtnlflblfonkapaaGreatDoorCards
import Derived.Test.YtnlflblfonkapaaGreatDoorTie
import Derived.OpenShut
import Derived.Deep.DeepHandedRow
import Derived.Lib.LaidTab
import Derived.LaidMore
import Derived.Test.YtnlflblfonkapaaGreatDoorAvMD
import Derived.Test.YtnlflblfonkapaaGreatDoorAvMI
set_option linter.all false
set_option linter.unusedSectionVars false
set_option linter.unusedVariables false
set_option linter.unusedSimpArgs false
set_option linter.unnecessarySimpa false
section
/- The lowered program, and that each text of it is one of the translation. -/
namespace Av
open Go Go.Proofs
set_option maxRecDepth 100000 in
theorem chkAll : okAt Tryz.prog tbl = true := by kernel_rfl
set_option maxRecDepth 100000 in
theorem chkAll2 : okAt2 Tryz.prog tbl2 = true := by kernel_rfl
theorem prOK : ProgOK Tryz.prog pr := progOK_of2 (t := tbl) (t2 := tbl2) (fun f => rfl) chkAll chkAll2
theorem prGl : ∀ g, cleans (pr.glob g) = true := by
  intro g
  simp only [pr]
  split <;> rfl
end Av
end

section
/- A ClaimBook that is handed in, as the interpreter's value. -/
namespace Av
open Go Go.Proofs Go.ChangeShapes Go.WideShapes Go.Deep

set_option linter.constructorNameAsVariable false
set_option linter.unusedVariables false
set_option maxRecDepth 20000

theorem zu3 : Tryz.prog.underlying 3 = some (.int .i64) := by kernel_rfl
theorem zt3 : IntT Tryz.prog 3 1 := .int zu3
theorem zc3 : Tryz.prog.cellsOf 3 = 1 := by kernel_rfl
theorem zu34 : Tryz.prog.underlying 34 = some (.struct (Tryz.prog.fieldsOf 34)) := by kernel_rfl
theorem zc34 : Tryz.prog.cellsOf 34 = 2 := by kernel_rfl
theorem zt34 : IntT Tryz.prog 34 2 := .str zu34 zc34 fun j hj => by
  have h0 : fieldIs Tryz.prog 34 0 3 0 = true := by kernel_rfl
  have h1 : fieldIs Tryz.prog 34 1 3 1 = true := by kernel_rfl
  match j, hj with
  | 0, _ => obtain ⟨f, q1, q2, q3⟩ := fieldIs_ok h0; exact ⟨0, f, 1, q1, q2 ▸ zt3, q2 ▸ zc3, by omega, by omega⟩
  | 1, _ => obtain ⟨f, q1, q2, q3⟩ := fieldIs_ok h1; exact ⟨1, f, 1, q1, q2 ▸ zt3, q2 ▸ zc3, by omega, by omega⟩
theorem zu67 : Tryz.prog.underlying 67 = some (.struct (Tryz.prog.fieldsOf 67)) := by kernel_rfl
theorem zc67 : Tryz.prog.cellsOf 67 = 7 := by kernel_rfl
theorem zt67 : IntT Tryz.prog 67 7 := .str zu67 zc67 fun j hj => by
  have h0 : fieldIs Tryz.prog 67 0 3 0 = true := by kernel_rfl
  have h1 : fieldIs Tryz.prog 67 1 34 1 = true := by kernel_rfl
  have h2 : fieldIs Tryz.prog 67 2 34 3 = true := by kernel_rfl
  have h3 : fieldIs Tryz.prog 67 3 34 5 = true := by kernel_rfl
  have hc : j = 0 ∨ (1 ≤ j ∧ j < 3) ∨ (3 ≤ j ∧ j < 5) ∨ (5 ≤ j ∧ j < 7) := by omega
  rcases hc with rfl | hc | hc | hc
  · obtain ⟨f, q1, q2, q3⟩ := fieldIs_ok h0; exact ⟨0, f, 1, q1, q2 ▸ zt3, q2 ▸ zc3, by omega, by omega⟩
  · obtain ⟨f, q1, q2, q3⟩ := fieldIs_ok h1; exact ⟨1, f, 2, q1, q2 ▸ zt34, q2 ▸ zc34, by omega, by omega⟩
  · obtain ⟨f, q1, q2, q3⟩ := fieldIs_ok h2; exact ⟨2, f, 2, q1, q2 ▸ zt34, q2 ▸ zc34, by omega, by omega⟩
  · obtain ⟨f, q1, q2, q3⟩ := fieldIs_ok h3; exact ⟨3, f, 2, q1, q2 ▸ zt34, q2 ▸ zc34, by omega, by omega⟩
theorem zu61 : Tryz.prog.underlying 61 = some (.struct (Tryz.prog.fieldsOf 61)) := by kernel_rfl
theorem zc61 : Tryz.prog.cellsOf 61 = 3 := by kernel_rfl
theorem zt61 : IntT Tryz.prog 61 3 := .str zu61 zc61 fun j hj => by
  have h0 : fieldIs Tryz.prog 61 0 3 0 = true := by kernel_rfl
  have h1 : fieldIs Tryz.prog 61 1 3 1 = true := by kernel_rfl
  have h2 : fieldIs Tryz.prog 61 2 3 2 = true := by kernel_rfl
  match j, hj with
  | 0, _ => obtain ⟨f, q1, q2, q3⟩ := fieldIs_ok h0; exact ⟨0, f, 1, q1, q2 ▸ zt3, q2 ▸ zc3, by omega, by omega⟩
  | 1, _ => obtain ⟨f, q1, q2, q3⟩ := fieldIs_ok h1; exact ⟨1, f, 1, q1, q2 ▸ zt3, q2 ▸ zc3, by omega, by omega⟩
  | 2, _ => obtain ⟨f, q1, q2, q3⟩ := fieldIs_ok h2; exact ⟨2, f, 1, q1, q2 ▸ zt3, q2 ▸ zc3, by omega, by omega⟩
theorem zu23 : Tryz.prog.underlying 23 = some (.array 3 3) := by kernel_rfl
theorem zc23 : Tryz.prog.cellsOf 23 = 3 := by kernel_rfl
theorem zt23 : IntT Tryz.prog 23 3 := IntT.arr (n := 3) (m := 1) zu23 zt3 zc3 (by omega) zc23
theorem zu22 : Tryz.prog.underlying 22 = some (.slice 67) := by kernel_rfl
theorem zu24 : Tryz.prog.underlying 24 = some (.slice 61) := by kernel_rfl
theorem zu26 : Tryz.prog.underlying 26 = some (.struct (Tryz.prog.fieldsOf 26)) := by kernel_rfl
theorem zc26 : Tryz.prog.cellsOf 26 = 7 := by kernel_rfl
theorem zc22 : Tryz.prog.cellsOf 22 = 1 := by kernel_rfl
theorem zc24 : Tryz.prog.cellsOf 24 = 1 := by kernel_rfl
theorem zct26 : Tryz.prog.cellTypes Tryz.prog.depth 26 = some [22, 3, 3, 3, 3, 24, 3] := by kernel_rfl

def wfRows (n : Nat) (rs : List (List Int)) : Prop := (rs.length : Int) ≤ 9223372036854775807 ∧ ∀ r ∈ rs, r.length = n ∧ ∀ z ∈ r, (Lit.int .i64 z).wf = true

theorem spot_of {W : World} {base t e : Nat} {r : Go.Reach} {v : Value} (ht : Tryz.prog.underlying t = some (.slice e)) (h : Cell.okWide Tryz.prog W r base t v) : ∀ a len cap, v = .slice (some a) len cap → a.spot = none ∧ (cap : Int) ≤ 9223372036854775807 := by
  rintro a len cap rfl
  unfold Cell.okWide at h
  rw [ht] at h
  simp only [Cell.ok, ht] at h
  exact ⟨h.2.2.2.1, h.2.1⟩
def toStg (r : List Int) : Stg := ⟨r.getD 0 0, r.getD 1 0, r.getD 2 0, r.getD 3 0, r.getD 4 0, r.getD 5 0, r.getD 6 0⟩
def toClk (r : List Int) : Clk := ⟨r.getD 0 0, r.getD 1 0, r.getD 2 0⟩
theorem svs_rows {hs : List (List Int)} (h : wfRows 7 hs) : hs.map (elem 7) = svs (hs.map toStg) := by
  rw [svs, List.map_map]
  refine List.map_congr_left fun r hr => ?_
  obtain ⟨hl, _⟩ := h.2 r hr
  match r, hl with
  | [a, b, c, d, e, f, g], _ => rfl
theorem cvs_rows {hs : List (List Int)} (h : wfRows 3 hs) : hs.map (elem 3) = cvs (hs.map toClk) := by
  rw [cvs, List.map_map]
  refine List.map_congr_left fun r hr => ?_
  obtain ⟨hl, _⟩ := h.2 r hr
  match r, hl with
  | [a, b, c], _ => rfl

theorem book_open {H : Type} {enc : TypeId × Value → H} {W : World} {base b0 : Nat} {spare : Nat → Bool} {held : Bool} {r : Go.Reach} {v : Value} {d : DataW H} {pl : List MemPlace}
    (hv : Value.okWide Tryz.prog W r b0 26 v) (h : DataW.Trod enc Tryz.prog W base spare held 26 v d pl) :
    ∃ b : Cbk, b.fit ∧ VR (Gh.start W) b.v v := by
  unfold Value.okWide at hv
  rw [zu26] at hv
  simp only at hv
  obtain ⟨cs, rfl, hsz, ts, hts, _, hcell⟩ := hv
  rw [zct26] at hts; cases hts
  rw [zc26] at hsz
  obtain ⟨l⟩ := cs
  match l, hsz with
  | [v0, v1, v2, v3, v4, v5, v6], _ =>
    obtain ⟨fuel, hf⟩ := h
    obtain ⟨xs, n, _, _, _, hlen, hg⟩ := DataW.trod_struct zu26 hf
    have f0 : fieldIs Tryz.prog 26 0 22 0 = true := by kernel_rfl
    have f1 : fieldIs Tryz.prog 26 1 3 1 = true := by kernel_rfl
    have f2 : fieldIs Tryz.prog 26 2 23 2 = true := by kernel_rfl
    have f3 : fieldIs Tryz.prog 26 3 24 5 = true := by kernel_rfl
    have f4 : fieldIs Tryz.prog 26 4 3 6 = true := by kernel_rfl
    obtain ⟨g0, q01, q02, q03⟩ := fieldIs_ok f0
    obtain ⟨g1, q11, q12, q13⟩ := fieldIs_ok f1
    obtain ⟨g2, q21, q22, q23⟩ := fieldIs_ok f2
    obtain ⟨g3, q31, q32, q33⟩ := fieldIs_ok f3
    obtain ⟨g4, q41, q42, q43⟩ := fieldIs_ok f4
    have e0 := hg 0 g0 q01
    have e1 := hg 1 g1 q11
    have e2 := hg 2 g2 q21
    have e3 := hg 3 g3 q31
    have e4 := hg 4 g4 q41
    have hl0 : 0 < xs.length := by rw [hlen]; exact (Array.getElem?_eq_some_iff.1 q01).1
    have hl1 : 1 < xs.length := by rw [hlen]; exact (Array.getElem?_eq_some_iff.1 q11).1
    have hl2 : 2 < xs.length := by rw [hlen]; exact (Array.getElem?_eq_some_iff.1 q21).1
    have hl3 : 3 < xs.length := by rw [hlen]; exact (Array.getElem?_eq_some_iff.1 q31).1
    have hl4 : 4 < xs.length := by rw [hlen]; exact (Array.getElem?_eq_some_iff.1 q41).1
    rw [q02, q03, zc22, List.getElem?_eq_getElem hl0] at e0
    rw [q12, q13, zc3, List.getElem?_eq_getElem hl1] at e1
    rw [q22, q23, zc23, List.getElem?_eq_getElem hl2] at e2
    rw [q32, q33, zc24, List.getElem?_eq_getElem hl3] at e3
    rw [q42, q43, zc3, List.getElem?_eq_getElem hl4] at e4
    simp only [Value.cells, List.drop_zero, List.drop_succ_cons, List.take_succ_cons, List.take_zero] at e0 e1 e2 e3 e4
    obtain ⟨u0, hu0, k0⟩ := hcell 0 v0 rfl
    obtain ⟨u5, hu5, k5⟩ := hcell 5 v5 rfl
    simp at hu0 hu5
    subst hu0; subst hu5
    obtain ⟨hs, a0, a1, a2⟩ := sl_read zu22 zt67 zc67 (by omega) (spot_of zu22 k0) e0
    obtain ⟨ms, a5, a3, a4⟩ := sl_read zu24 zt61 zc61 (by omega) (spot_of zu24 k5) e3
    obtain ⟨b1, b2⟩ := zt3 _ _ _ _ _ _ _ _ _ e1
    obtain ⟨l1, b3, b4, b5, b6⟩ := ints_of (S := Gh.start W) b2
    obtain ⟨c1, c2⟩ := zt23 _ _ _ _ _ _ _ _ _ e2
    obtain ⟨l2, c3, c4, c5, c6⟩ := ints_of (S := Gh.start W) c2
    obtain ⟨d1, d2⟩ := zt3 _ _ _ _ _ _ _ _ _ e4
    obtain ⟨l4, d3, d4, d5, d6⟩ := ints_of (S := Gh.start W) d2
    have y1 := b3.trans b1
    have y2 := c3.trans c1
    have y4 := d3.trans d1
    match l1, y1, l2, y2, l4, y4 with
    | [w], _, [x0, x1, x2], _, [rate], _ =>
      refine ⟨⟨hs.map toStg, w, x0, x1, x2, ms.map toClk, rate⟩, ⟨by simpa using a0, by simpa using a5⟩, ?_⟩
      rw [svs_rows ⟨a0, a1⟩] at a2
      rw [cvs_rows ⟨a5, a3⟩] at a4
      have := VR.agg' (VRs.cons a2 (VRs.append b5 (VRs.append c5 (VRs.cons a4 d5))))
      simpa [ints] using this
end Av
end

section
/- From the interpreter's answer to a law's call. -/
namespace Av
open Go Go.Proofs

set_option linter.constructorNameAsVariable false
set_option maxRecDepth 20000

theorem grown_of {S S' : Gh} {H' : Av.H} {W w' : World} (h : Keep S Av.H.emp W S' H' w') (hS : ∀ c, ¬ own S Av.H.emp c) : Go.RowKit.Grown W w' := by
  refine ⟨⟨h.sm.1, h.sm.2.1, fun i hi => ?_⟩, h.sm.2.2.1, h.sz⟩
  have := h.old i hi (hS i)
  rw [this]
  cases hq : W.heap[i]? with
  | none => rfl
  | some o => cases o <;> first | rfl | exact ⟨rfl, rfl, rfl, fun _ _ => rfl⟩ | exact .inr ⟨rfl, rfl⟩

theorem start_own {W : World} (c : Nat) : ¬ own (Gh.start W) Av.H.emp c := by
  rintro (⟨b, o, h1, _⟩ | ⟨t, i, h1, _⟩)
  · cases h1
  · cases h1

/-- what the globals hold -/
def Globs (W : World) : Prop := ∀ g i, i < (pr.glob g).length → ∃ v, W.cell? ⟨g, i, none⟩ = some v ∧ VR (Gh.start W) ((pr.glob g).getD i .junk) v
theorem start_ok {W : World} (h : Globs W) : WR (chkR Tryz.prog) pr.glob (Gh.start W) Av.H.emp W := .start h

/-- A law that the interpreter answers with true. -/
theorem law_ok {W : World} (hw : WR (chkR Tryz.prog) pr.glob (Gh.start W) Av.H.emp W) {k : Nat} (hk : k < 1000) {vs : List AV} {h' : Av.H} (hx : dcall pr (.fn k [] []) vs Av.H.emp = some (.bool true, h')) {args : Array Value} (hA : VRs (Gh.start W) vs args.toList) :
    Calls Tryz.prog k args W fun e w' => e = .returned (.bool true) ∧ Go.RowKit.Grown W w' ∧ ∀ i, i < W.heap.size → w'.heap[i]? = W.heap[i]? := by
  have hs := sound (P := Tryz.prog) (p := pr) (by kernel_rfl) prGl prOK hx hw hA
  rw [Nat.mod_eq_of_lt hk] at hs
  refine hs.mono fun e w' he => ?_
  obtain ⟨u, S', rfl, hV, _, hK⟩ := he
  rw [hV.bool_inv]
  exact ⟨rfl, grown_of hK start_own, fun i hi => hK.old i hi (start_own i)⟩

theorem laidOut : laidOutB Tryz.prog = true := by kernel_rfl
/-- An argument reads as it did. -/
theorem trod_stay1 {H : Type} {enc : TypeId × Value → H} {W W' : World} {sp : Nat → Bool} {t : Nat} {v : Value} {d : DataW H} {pl : List MemPlace} (hr : Tryz.prog.readableRec t = true) (hrow : t < Tryz.prog.types.size)
    (h : DataW.Trod enc Tryz.prog W 0 (fun _ => true) true t v d pl) (hs : ∀ i, i < W.heap.size → W'.heap[i]? = W.heap[i]?) (hlt : ∀ p ∈ pl, p.block < W.heap.size) (hsp : ∀ p ∈ pl, sp p.block = true) : DataW.Trod enc Tryz.prog W' 0 sp true t v d pl := by
  obtain ⟨fuel, hf⟩ := h
  refine ⟨fuel, DataW.trod_stays (kids_book laidOut hr) (book_sized hr) (fun h => by cases h) ⟨hrow, book_self t⟩ hf (fun p hp => ?_) hsp⟩
  have := hlt p hp
  cases p with
  | cell b off => simp only [World.sameAt, World.cell?]; rw [hs b this]
  | map b => exact hs b this
end Av
end

section
/- What the row wants: the globals, a world for the witness. -/
namespace Av
open Go Go.Proofs Go.Proofs.YtnlflblfonkapaaGreatDoor Go.ChangeShapes Go.WideShapes Go.ChangeAt Go.RowKit

set_option linter.constructorNameAsVariable false
set_option linter.unusedVariables false
set_option maxRecDepth 20000

theorem rec26 : Tryz.prog.readableRec 26 = true := by kernel_rfl
theorem row26 : (26 : Nat) < Tryz.prog.types.size := of_decide_eq_true (by kernel_rfl)
/-- the row's list -/
def laidL : List (String × DataW Unit) := [("macadam/claim.nowhere", Rows.laid_macadam_claim_nowhere), ("macadam/claim.kinds", Rows.laid_macadam_claim_kinds), ("macadam/drain.drains", Rows.laid_macadam_drain_drains), ("macadam/drain.nowhere", Rows.laid_macadam_drain_nowhere), ("macadam/rut.nowhere", Rows.laid_macadam_rut_nowhere), ("macadam/rut.asks", Rows.laid_macadam_rut_asks), ("macadam/stone.ends", Rows.laid_macadam_stone_ends), ("macadam/stone.nowhere", Rows.laid_macadam_stone_nowhere)]

theorem gn0 : Tryz.prog.globalNamed "macadam/claim.kinds" = some 0 := by kernel_rfl
theorem gt0 : (Tryz.prog.globals[0]?).map (·.type) = some 164 := by kernel_rfl
theorem gc0 : Tryz.prog.cellsOf 164 = 2 := by kernel_rfl
theorem gf0 : Tryz.prog.cellsOf 163 = 1 := by kernel_rfl
theorem glob_0 {W : World} (h : laidMetH Tryz.prog laidL W) : W.cell? ⟨0, 0, none⟩ = some (.func (.func 149) #[] #[]) ∧ W.cell? ⟨0, 1, none⟩ = some (.func (.func 145) #[] #[]) := by
  have h1 := h.funcs (n := "macadam/claim.kinds") (List.mem_cons_of_mem _ (List.mem_cons_self ..))
  obtain ⟨g, t, cs, fuel, p, hg, ht, hv, hd⟩ := h1
  obtain rfl := Option.some.inj (gn0.symm.trans hg)
  obtain rfl := Option.some.inj (gt0.symm.trans ht)
  have hd' : DataW.trod (funcToken Tryz.prog) Tryz.prog W 0 (fun _ => true) true fuel 164 cs.toList = some (.agg [.held [40, 109, 97, 99, 97, 100, 97, 109, 47, 99, 108, 97, 105, 109, 46, 118, 111, 116, 101, 115, 41, 46, 115, 111, 109, 101], .held [40, 109, 97, 99, 97, 100, 97, 109, 47, 99, 108, 97, 105, 109, 46, 118, 111, 116, 101, 115, 41, 46, 101, 97, 99, 104]], p) := hd
  obtain ⟨xs, m, _, hx, hlen, hxl, hel⟩ := DataW.trod_array Tryz.underlying164 hd'
  rw [gc0] at hlen
  obtain ⟨l⟩ := cs
  match l, hlen with
  | [a0, a1], _ =>
    match xs, hxl with
    | [x0, x1], _ =>
      simp only [List.map_cons, List.map_nil, Prod.mk.injEq, DataW.agg.injEq, List.cons.injEq, and_true] at hx
      obtain ⟨⟨e0, e1⟩, _⟩ := hx
      have q0 := hel 0 (by omega)
      have q1 := hel 1 (by omega)
      rw [gf0] at q0 q1
      simp only [Nat.zero_mul, Nat.one_mul, List.drop_zero, List.drop_succ_cons, List.take_succ_cons, List.take_zero, List.getElem?_cons_zero, List.getElem?_cons_succ] at q0 q1
      obtain ⟨x00, x01⟩ := x0
      obtain ⟨x10, x11⟩ := x1
      simp only at e0 e1
      subst e0 e1
      obtain rfl := func_of_trod (f0 := 149) Tryz.underlying163 (by kernel_rfl) q0
      obtain rfl := func_of_trod (f0 := 145) Tryz.underlying163 (by kernel_rfl) q1
      exact ⟨World.var?_cell gn0 hv 0, World.var?_cell gn0 hv 1⟩
theorem gn3 : Tryz.prog.globalNamed "macadam/rut.asks" = some 3 := by kernel_rfl
theorem gt3 : (Tryz.prog.globals[3]?).map (·.type) = some 184 := by kernel_rfl
theorem gc3 : Tryz.prog.cellsOf 184 = 2 := by kernel_rfl
theorem gf3 : Tryz.prog.cellsOf 183 = 1 := by kernel_rfl
theorem glob_3 {W : World} (h : laidMetH Tryz.prog laidL W) : W.cell? ⟨3, 0, none⟩ = some (.func (.func 144) #[] #[]) ∧ W.cell? ⟨3, 1, none⟩ = some (.func (.func 150) #[] #[]) := by
  have h1 := h.funcs (n := "macadam/rut.asks") (List.mem_cons_of_mem _ (List.mem_cons_of_mem _ (List.mem_cons_of_mem _ (List.mem_cons_of_mem _ (List.mem_cons_of_mem _ (List.mem_cons_self ..))))))
  obtain ⟨g, t, cs, fuel, p, hg, ht, hv, hd⟩ := h1
  obtain rfl := Option.some.inj (gn3.symm.trans hg)
  obtain rfl := Option.some.inj (gt3.symm.trans ht)
  have hd' : DataW.trod (funcToken Tryz.prog) Tryz.prog W 0 (fun _ => true) true fuel 184 cs.toList = some (.agg [.held [40, 109, 97, 99, 97, 100, 97, 109, 47, 114, 117, 116, 46, 98, 111, 111, 107, 41, 46, 109, 97, 121], .held [40, 109, 97, 99, 97, 100, 97, 109, 47, 114, 117, 116, 46, 98, 111, 111, 107, 41, 46, 109, 117, 115, 116]], p) := hd
  obtain ⟨xs, m, _, hx, hlen, hxl, hel⟩ := DataW.trod_array Tryz.underlying184 hd'
  rw [gc3] at hlen
  obtain ⟨l⟩ := cs
  match l, hlen with
  | [a0, a1], _ =>
    match xs, hxl with
    | [x0, x1], _ =>
      simp only [List.map_cons, List.map_nil, Prod.mk.injEq, DataW.agg.injEq, List.cons.injEq, and_true] at hx
      obtain ⟨⟨e0, e1⟩, _⟩ := hx
      have q0 := hel 0 (by omega)
      have q1 := hel 1 (by omega)
      rw [gf3] at q0 q1
      simp only [Nat.zero_mul, Nat.one_mul, List.drop_zero, List.drop_succ_cons, List.take_succ_cons, List.take_zero, List.getElem?_cons_zero, List.getElem?_cons_succ] at q0 q1
      obtain ⟨x00, x01⟩ := x0
      obtain ⟨x10, x11⟩ := x1
      simp only at e0 e1
      subst e0 e1
      obtain rfl := func_of_trod (f0 := 144) Tryz.underlying183 (by kernel_rfl) q0
      obtain rfl := func_of_trod (f0 := 150) Tryz.underlying183 (by kernel_rfl) q1
      exact ⟨World.var?_cell gn3 hv 0, World.var?_cell gn3 hv 1⟩
theorem gn6 : Tryz.prog.globalNamed "macadam/drain.drains" = some 6 := by kernel_rfl
theorem gt6 : (Tryz.prog.globals[6]?).map (·.type) = some 231 := by kernel_rfl
theorem gc6 : Tryz.prog.cellsOf 231 = 2 := by kernel_rfl
theorem gf6 : Tryz.prog.cellsOf 230 = 1 := by kernel_rfl
theorem glob_6 {W : World} (h : laidMetH Tryz.prog laidL W) : W.cell? ⟨6, 0, none⟩ = some (.func (.func 146) #[] #[]) ∧ W.cell? ⟨6, 1, none⟩ = some (.func (.func 151) #[] #[]) := by
  have h1 := h.funcs (n := "macadam/drain.drains") (List.mem_cons_of_mem _ (List.mem_cons_of_mem _ (List.mem_cons_self ..)))
  obtain ⟨g, t, cs, fuel, p, hg, ht, hv, hd⟩ := h1
  obtain rfl := Option.some.inj (gn6.symm.trans hg)
  obtain rfl := Option.some.inj (gt6.symm.trans ht)
  have hd' : DataW.trod (funcToken Tryz.prog) Tryz.prog W 0 (fun _ => true) true fuel 231 cs.toList = some (.agg [.held [40, 109, 97, 99, 97, 100, 97, 109, 47, 100, 114, 97, 105, 110, 46, 100, 105, 116, 99, 104, 41, 46, 98, 108, 111, 99, 107, 101, 100], .held [40, 109, 97, 99, 97, 100, 97, 109, 47, 100, 114, 97, 105, 110, 46, 100, 105, 116, 99, 104, 41, 46, 111, 112, 101, 110]], p) := hd
  obtain ⟨xs, m, _, hx, hlen, hxl, hel⟩ := DataW.trod_array Tryz.underlying231 hd'
  rw [gc6] at hlen
  obtain ⟨l⟩ := cs
  match l, hlen with
  | [a0, a1], _ =>
    match xs, hxl with
    | [x0, x1], _ =>
      simp only [List.map_cons, List.map_nil, Prod.mk.injEq, DataW.agg.injEq, List.cons.injEq, and_true] at hx
      obtain ⟨⟨e0, e1⟩, _⟩ := hx
      have q0 := hel 0 (by omega)
      have q1 := hel 1 (by omega)
      rw [gf6] at q0 q1
      simp only [Nat.zero_mul, Nat.one_mul, List.drop_zero, List.drop_succ_cons, List.take_succ_cons, List.take_zero, List.getElem?_cons_zero, List.getElem?_cons_succ] at q0 q1
      obtain ⟨x00, x01⟩ := x0
      obtain ⟨x10, x11⟩ := x1
      simp only at e0 e1
      subst e0 e1
      obtain rfl := func_of_trod (f0 := 146) Tryz.underlying230 (by kernel_rfl) q0
      obtain rfl := func_of_trod (f0 := 151) Tryz.underlying230 (by kernel_rfl) q1
      exact ⟨World.var?_cell gn6 hv 0, World.var?_cell gn6 hv 1⟩
theorem gn7 : Tryz.prog.globalNamed "macadam/stone.ends" = some 7 := by kernel_rfl
theorem gt7 : (Tryz.prog.globals[7]?).map (·.type) = some 234 := by kernel_rfl
theorem gc7 : Tryz.prog.cellsOf 234 = 2 := by kernel_rfl
theorem gf7 : Tryz.prog.cellsOf 233 = 1 := by kernel_rfl
theorem glob_7 {W : World} (h : laidMetH Tryz.prog laidL W) : W.cell? ⟨7, 0, none⟩ = some (.func (.func 147) #[] #[]) ∧ W.cell? ⟨7, 1, none⟩ = some (.func (.func 152) #[] #[]) := by
  have h1 := h.funcs (n := "macadam/stone.ends") (List.mem_cons_of_mem _ (List.mem_cons_of_mem _ (List.mem_cons_of_mem _ (List.mem_cons_of_mem _ (List.mem_cons_of_mem _ (List.mem_cons_of_mem _ (List.mem_cons_self ..)))))))
  obtain ⟨g, t, cs, fuel, p, hg, ht, hv, hd⟩ := h1
  obtain rfl := Option.some.inj (gn7.symm.trans hg)
  obtain rfl := Option.some.inj (gt7.symm.trans ht)
  have hd' : DataW.trod (funcToken Tryz.prog) Tryz.prog W 0 (fun _ => true) true fuel 234 cs.toList = some (.agg [.held [40, 109, 97, 99, 97, 100, 97, 109, 47, 115, 116, 111, 110, 101, 46, 109, 111, 118, 101, 41, 46, 99, 111, 109, 105, 110, 103], .held [40, 109, 97, 99, 97, 100, 97, 109, 47, 115, 116, 111, 110, 101, 46, 109, 111, 118, 101, 41, 46, 103, 111, 105, 110, 103]], p) := hd
  obtain ⟨xs, m, _, hx, hlen, hxl, hel⟩ := DataW.trod_array Tryz.underlying234 hd'
  rw [gc7] at hlen
  obtain ⟨l⟩ := cs
  match l, hlen with
  | [a0, a1], _ =>
    match xs, hxl with
    | [x0, x1], _ =>
      simp only [List.map_cons, List.map_nil, Prod.mk.injEq, DataW.agg.injEq, List.cons.injEq, and_true] at hx
      obtain ⟨⟨e0, e1⟩, _⟩ := hx
      have q0 := hel 0 (by omega)
      have q1 := hel 1 (by omega)
      rw [gf7] at q0 q1
      simp only [Nat.zero_mul, Nat.one_mul, List.drop_zero, List.drop_succ_cons, List.take_succ_cons, List.take_zero, List.getElem?_cons_zero, List.getElem?_cons_succ] at q0 q1
      obtain ⟨x00, x01⟩ := x0
      obtain ⟨x10, x11⟩ := x1
      simp only at e0 e1
      subst e0 e1
      obtain rfl := func_of_trod (f0 := 147) Tryz.underlying233 (by kernel_rfl) q0
      obtain rfl := func_of_trod (f0 := 152) Tryz.underlying233 (by kernel_rfl) q1
      exact ⟨World.var?_cell gn7 hv 0, World.var?_cell gn7 hv 1⟩
theorem gn1 : Tryz.prog.globalNamed "macadam/claim.nowhere" = some 1 := by kernel_rfl
theorem gt1 : (Tryz.prog.globals[1]?).map (·.type) = some 169 := by kernel_rfl
theorem gu1 : Tryz.prog.underlying 169 = some (.struct (Tryz.prog.fieldsOf 169)) := by kernel_rfl
theorem gc1 : Tryz.prog.cellsOf 169 = 2 := by kernel_rfl
theorem data_1 {W : World} {g t fuel : Nat} {cs : Array Value} {p : List MemPlace} (hg : Tryz.prog.globalNamed "macadam/claim.nowhere" = some g) (ht : (Tryz.prog.globals[g]?).map (·.type) = some t) (hv : W.var? Tryz.prog "macadam/claim.nowhere" = some cs)
    (hd : DataW.trod (fun _ => ()) Tryz.prog W 0 (fun _ => true) false fuel t cs.toList = some (.agg [.lit (.int .i64 (-1)), .lit (.int .i64 (-1))], p)) : W.cell? ⟨1, 0, none⟩ = some (.int .i64 (-1)) ∧ W.cell? ⟨1, 1, none⟩ = some (.int .i64 (-1)) := by
  obtain rfl := Option.some.inj (gn1.symm.trans hg)
  obtain rfl := Option.some.inj (gt1.symm.trans ht)
  obtain ⟨xs, m, _, hx, hlen, hxl, hel⟩ := DataW.trod_struct gu1 hd
  rw [gc1] at hlen
  have f0 : fieldIs Tryz.prog 169 0 3 0 = true := by kernel_rfl
  have f1 : fieldIs Tryz.prog 169 1 3 1 = true := by kernel_rfl
  obtain ⟨y0, r1, r2, r3⟩ := fieldIs_ok f0
  obtain ⟨y1, r4, r5, r6⟩ := fieldIs_ok f1
  have q0 := hel 0 y0 r1
  have q1 := hel 1 y1 r4
  rw [r2, r3, zc3] at q0
  rw [r5, r6, zc3] at q1
  obtain ⟨l⟩ := cs
  have hsz : (Tryz.prog.fieldsOf 169).size = 2 := by kernel_rfl
  rw [hsz] at hxl
  match l, hlen with
  | [a0, a1], _ =>
    match xs, hxl with
    | [x0, x1], _ =>
      simp only [List.map_cons, List.map_nil, Prod.mk.injEq, DataW.agg.injEq, List.cons.injEq, and_true] at hx
      obtain ⟨⟨e0, e1⟩, _⟩ := hx
      simp only [List.drop_zero, List.drop_succ_cons, List.take_succ_cons, List.take_zero, List.getElem?_cons_zero, List.getElem?_cons_succ] at q0 q1
      obtain ⟨n0, s0, s1, _⟩ := DataW.trod_int zu3 q0
      obtain ⟨n1, s2, s3, _⟩ := DataW.trod_int zu3 q1
      rw [s1] at e0
      rw [s3] at e1
      simp only [DataW.lit.injEq, Lit.int.injEq, true_and] at e0 e1
      simp only [List.cons.injEq, and_true] at s0 s2
      subst e0 e1 s0 s2
      exact ⟨World.var?_cell gn1 hv 0, World.var?_cell gn1 hv 1⟩
theorem gn4 : Tryz.prog.globalNamed "macadam/drain.nowhere" = some 4 := by kernel_rfl
theorem gt4 : (Tryz.prog.globals[4]?).map (·.type) = some 211 := by kernel_rfl
theorem gu4 : Tryz.prog.underlying 211 = some (.struct (Tryz.prog.fieldsOf 211)) := by kernel_rfl
theorem gc4 : Tryz.prog.cellsOf 211 = 2 := by kernel_rfl
theorem data_4 {W : World} {g t fuel : Nat} {cs : Array Value} {p : List MemPlace} (hg : Tryz.prog.globalNamed "macadam/drain.nowhere" = some g) (ht : (Tryz.prog.globals[g]?).map (·.type) = some t) (hv : W.var? Tryz.prog "macadam/drain.nowhere" = some cs)
    (hd : DataW.trod (fun _ => ()) Tryz.prog W 0 (fun _ => true) false fuel t cs.toList = some (.agg [.lit (.int .i64 (-1)), .lit (.int .i64 (-1))], p)) : W.cell? ⟨4, 0, none⟩ = some (.int .i64 (-1)) ∧ W.cell? ⟨4, 1, none⟩ = some (.int .i64 (-1)) := by
  obtain rfl := Option.some.inj (gn4.symm.trans hg)
  obtain rfl := Option.some.inj (gt4.symm.trans ht)
  obtain ⟨xs, m, _, hx, hlen, hxl, hel⟩ := DataW.trod_struct gu4 hd
  rw [gc4] at hlen
  have f0 : fieldIs Tryz.prog 211 0 3 0 = true := by kernel_rfl
  have f1 : fieldIs Tryz.prog 211 1 3 1 = true := by kernel_rfl
  obtain ⟨y0, r1, r2, r3⟩ := fieldIs_ok f0
  obtain ⟨y1, r4, r5, r6⟩ := fieldIs_ok f1
  have q0 := hel 0 y0 r1
  have q1 := hel 1 y1 r4
  rw [r2, r3, zc3] at q0
  rw [r5, r6, zc3] at q1
  obtain ⟨l⟩ := cs
  have hsz : (Tryz.prog.fieldsOf 211).size = 2 := by kernel_rfl
  rw [hsz] at hxl
  match l, hlen with
  | [a0, a1], _ =>
    match xs, hxl with
    | [x0, x1], _ =>
      simp only [List.map_cons, List.map_nil, Prod.mk.injEq, DataW.agg.injEq, List.cons.injEq, and_true] at hx
      obtain ⟨⟨e0, e1⟩, _⟩ := hx
      simp only [List.drop_zero, List.drop_succ_cons, List.take_succ_cons, List.take_zero, List.getElem?_cons_zero, List.getElem?_cons_succ] at q0 q1
      obtain ⟨n0, s0, s1, _⟩ := DataW.trod_int zu3 q0
      obtain ⟨n1, s2, s3, _⟩ := DataW.trod_int zu3 q1
      rw [s1] at e0
      rw [s3] at e1
      simp only [DataW.lit.injEq, Lit.int.injEq, true_and] at e0 e1
      simp only [List.cons.injEq, and_true] at s0 s2
      subst e0 e1 s0 s2
      exact ⟨World.var?_cell gn4 hv 0, World.var?_cell gn4 hv 1⟩
theorem gn2 : Tryz.prog.globalNamed "macadam/rut.nowhere" = some 2 := by kernel_rfl
theorem gt2 : (Tryz.prog.globals[2]?).map (·.type) = some 174 := by kernel_rfl
theorem gu2 : Tryz.prog.underlying 174 = some (.struct (Tryz.prog.fieldsOf 174)) := by kernel_rfl
theorem gc2 : Tryz.prog.cellsOf 174 = 2 := by kernel_rfl
theorem data_2 {W : World} {g t fuel : Nat} {cs : Array Value} {p : List MemPlace} (hg : Tryz.prog.globalNamed "macadam/rut.nowhere" = some g) (ht : (Tryz.prog.globals[g]?).map (·.type) = some t) (hv : W.var? Tryz.prog "macadam/rut.nowhere" = some cs)
    (hd : DataW.trod (fun _ => ()) Tryz.prog W 0 (fun _ => true) false fuel t cs.toList = some (.agg [.lit (.int .i64 (-1)), .lit (.int .i64 (-1))], p)) : W.cell? ⟨2, 0, none⟩ = some (.int .i64 (-1)) ∧ W.cell? ⟨2, 1, none⟩ = some (.int .i64 (-1)) := by
  obtain rfl := Option.some.inj (gn2.symm.trans hg)
  obtain rfl := Option.some.inj (gt2.symm.trans ht)
  obtain ⟨xs, m, _, hx, hlen, hxl, hel⟩ := DataW.trod_struct gu2 hd
  rw [gc2] at hlen
  have f0 : fieldIs Tryz.prog 174 0 3 0 = true := by kernel_rfl
  have f1 : fieldIs Tryz.prog 174 1 3 1 = true := by kernel_rfl
  obtain ⟨y0, r1, r2, r3⟩ := fieldIs_ok f0
  obtain ⟨y1, r4, r5, r6⟩ := fieldIs_ok f1
  have q0 := hel 0 y0 r1
  have q1 := hel 1 y1 r4
  rw [r2, r3, zc3] at q0
  rw [r5, r6, zc3] at q1
  obtain ⟨l⟩ := cs
  have hsz : (Tryz.prog.fieldsOf 174).size = 2 := by kernel_rfl
  rw [hsz] at hxl
  match l, hlen with
  | [a0, a1], _ =>
    match xs, hxl with
    | [x0, x1], _ =>
      simp only [List.map_cons, List.map_nil, Prod.mk.injEq, DataW.agg.injEq, List.cons.injEq, and_true] at hx
      obtain ⟨⟨e0, e1⟩, _⟩ := hx
      simp only [List.drop_zero, List.drop_succ_cons, List.take_succ_cons, List.take_zero, List.getElem?_cons_zero, List.getElem?_cons_succ] at q0 q1
      obtain ⟨n0, s0, s1, _⟩ := DataW.trod_int zu3 q0
      obtain ⟨n1, s2, s3, _⟩ := DataW.trod_int zu3 q1
      rw [s1] at e0
      rw [s3] at e1
      simp only [DataW.lit.injEq, Lit.int.injEq, true_and] at e0 e1
      simp only [List.cons.injEq, and_true] at s0 s2
      subst e0 e1 s0 s2
      exact ⟨World.var?_cell gn2 hv 0, World.var?_cell gn2 hv 1⟩
theorem gn5 : Tryz.prog.globalNamed "macadam/stone.nowhere" = some 5 := by kernel_rfl
theorem gt5 : (Tryz.prog.globals[5]?).map (·.type) = some 216 := by kernel_rfl
theorem gu5 : Tryz.prog.underlying 216 = some (.struct (Tryz.prog.fieldsOf 216)) := by kernel_rfl
theorem gc5 : Tryz.prog.cellsOf 216 = 2 := by kernel_rfl
theorem data_5 {W : World} {g t fuel : Nat} {cs : Array Value} {p : List MemPlace} (hg : Tryz.prog.globalNamed "macadam/stone.nowhere" = some g) (ht : (Tryz.prog.globals[g]?).map (·.type) = some t) (hv : W.var? Tryz.prog "macadam/stone.nowhere" = some cs)
    (hd : DataW.trod (fun _ => ()) Tryz.prog W 0 (fun _ => true) false fuel t cs.toList = some (.agg [.lit (.int .i64 (-1)), .lit (.int .i64 (-1))], p)) : W.cell? ⟨5, 0, none⟩ = some (.int .i64 (-1)) ∧ W.cell? ⟨5, 1, none⟩ = some (.int .i64 (-1)) := by
  obtain rfl := Option.some.inj (gn5.symm.trans hg)
  obtain rfl := Option.some.inj (gt5.symm.trans ht)
  obtain ⟨xs, m, _, hx, hlen, hxl, hel⟩ := DataW.trod_struct gu5 hd
  rw [gc5] at hlen
  have f0 : fieldIs Tryz.prog 216 0 3 0 = true := by kernel_rfl
  have f1 : fieldIs Tryz.prog 216 1 3 1 = true := by kernel_rfl
  obtain ⟨y0, r1, r2, r3⟩ := fieldIs_ok f0
  obtain ⟨y1, r4, r5, r6⟩ := fieldIs_ok f1
  have q0 := hel 0 y0 r1
  have q1 := hel 1 y1 r4
  rw [r2, r3, zc3] at q0
  rw [r5, r6, zc3] at q1
  obtain ⟨l⟩ := cs
  have hsz : (Tryz.prog.fieldsOf 216).size = 2 := by kernel_rfl
  rw [hsz] at hxl
  match l, hlen with
  | [a0, a1], _ =>
    match xs, hxl with
    | [x0, x1], _ =>
      simp only [List.map_cons, List.map_nil, Prod.mk.injEq, DataW.agg.injEq, List.cons.injEq, and_true] at hx
      obtain ⟨⟨e0, e1⟩, _⟩ := hx
      simp only [List.drop_zero, List.drop_succ_cons, List.take_succ_cons, List.take_zero, List.getElem?_cons_zero, List.getElem?_cons_succ] at q0 q1
      obtain ⟨n0, s0, s1, _⟩ := DataW.trod_int zu3 q0
      obtain ⟨n1, s2, s3, _⟩ := DataW.trod_int zu3 q1
      rw [s1] at e0
      rw [s3] at e1
      simp only [DataW.lit.injEq, Lit.int.injEq, true_and] at e0 e1
      simp only [List.cons.injEq, and_true] at s0 s2
      subst e0 e1 s0 s2
      exact ⟨World.var?_cell gn5 hv 0, World.var?_cell gn5 hv 1⟩
theorem datas {W : World} (h : laidMetH Tryz.prog laidL W) : (W.cell? ⟨1, 0, none⟩ = some (.int .i64 (-1)) ∧ W.cell? ⟨1, 1, none⟩ = some (.int .i64 (-1))) ∧ (W.cell? ⟨4, 0, none⟩ = some (.int .i64 (-1)) ∧ W.cell? ⟨4, 1, none⟩ = some (.int .i64 (-1))) ∧
    (W.cell? ⟨2, 0, none⟩ = some (.int .i64 (-1)) ∧ W.cell? ⟨2, 1, none⟩ = some (.int .i64 (-1))) ∧ (W.cell? ⟨5, 0, none⟩ = some (.int .i64 (-1)) ∧ W.cell? ⟨5, 1, none⟩ = some (.int .i64 (-1))) := by
  have h2 : laidMet Tryz.prog [("macadam/claim.nowhere", Rows.laid_macadam_claim_nowhere), ("macadam/drain.nowhere", Rows.laid_macadam_drain_nowhere), ("macadam/rut.nowhere", Rows.laid_macadam_rut_nowhere), ("macadam/stone.nowhere", Rows.laid_macadam_stone_nowhere)] W := h.1
  obtain ⟨ps, ⟨g1, t1, c1, fu1, p1, r1, hg1, ht1, hv1, hd1, ⟨g2, t2, c2, fu2, p2, r2, hg2, ht2, hv2, hd2, ⟨g3, t3, c3, fu3, p3, r3, hg3, ht3, hv3, hd3, ⟨g4, t4, c4, fu4, p4, r4, hg4, ht4, hv4, hd4, _⟩, _⟩, _⟩, _⟩, _⟩ := h2
  exact ⟨data_1 hg1 ht1 hv1 hd1, data_4 hg2 ht2 hv2 hd2, data_2 hg3 ht3 hv3 hd3, data_5 hg4 ht4 hv4 hd4⟩
theorem globs_of {W : World} (h : laidMetH Tryz.prog laidL W) : Globs W := by
  obtain ⟨d1, d4, d2, d5⟩ := datas h
  have e0 := glob_0 h
  have e3 := glob_3 h
  have e6 := glob_6 h
  have e7 := glob_7 h
  intro g i hi
  match g with
  | 0 =>
    match i, hi with
    | 0, _ => exact ⟨_, e0.1, .fn 149 [] [] #[] #[] rfl rfl (by simp) (by simp)⟩
    | 1, _ => exact ⟨_, e0.2, .fn 145 [] [] #[] #[] rfl rfl (by simp) (by simp)⟩
  | 1 =>
    match i, hi with
    | 0, _ => exact ⟨_, d1.1, .int _ _⟩
    | 1, _ => exact ⟨_, d1.2, .int _ _⟩
  | 2 =>
    match i, hi with
    | 0, _ => exact ⟨_, d2.1, .int _ _⟩
    | 1, _ => exact ⟨_, d2.2, .int _ _⟩
  | 3 =>
    match i, hi with
    | 0, _ => exact ⟨_, e3.1, .fn 144 [] [] #[] #[] rfl rfl (by simp) (by simp)⟩
    | 1, _ => exact ⟨_, e3.2, .fn 150 [] [] #[] #[] rfl rfl (by simp) (by simp)⟩
  | 4 =>
    match i, hi with
    | 0, _ => exact ⟨_, d4.1, .int _ _⟩
    | 1, _ => exact ⟨_, d4.2, .int _ _⟩
  | 5 =>
    match i, hi with
    | 0, _ => exact ⟨_, d5.1, .int _ _⟩
    | 1, _ => exact ⟨_, d5.2, .int _ _⟩
  | 6 =>
    match i, hi with
    | 0, _ => exact ⟨_, e6.1, .fn 146 [] [] #[] #[] rfl rfl (by simp) (by simp)⟩
    | 1, _ => exact ⟨_, e6.2, .fn 151 [] [] #[] #[] rfl rfl (by simp) (by simp)⟩
  | 7 =>
    match i, hi with
    | 0, _ => exact ⟨_, e7.1, .fn 147 [] [] #[] #[] rfl rfl (by simp) (by simp)⟩
    | 1, _ => exact ⟨_, e7.2, .fn 152 [] [] #[] #[] rfl rfl (by simp) (by simp)⟩
  | g + 8 => exact absurd hi (Nat.not_lt_zero _)
theorem ownK : ownKnob Tryz.prog.godebug = none := by kernel_rfl
/-- a world for the witness: the settled one, the globals holding what their initialisers lay -/
noncomputable def lw (k : Nat) (cs : Array Value) (w : World) : World :=
  { w with heap := w.heap.modify k fun
      | .cells _ t frozen => .cells cs t frozen
      | o => o }
def nw : Array Value := #[.int .i64 (-1), .int .i64 (-1)]
def f2 (a b : Nat) : Array Value := #[.func (.func a) #[] #[], .func (.func b) #[] #[]]
noncomputable def laidWorld (os : Os) : World :=
  lw 7 (f2 147 152) (lw 6 (f2 146 151) (lw 5 nw (lw 4 nw (lw 3 (f2 144 150) (lw 2 nw (lw 1 nw (lw 0 (f2 149 145) (World.holding Tryz.prog os ⟨#[], #[], []⟩))))))))
def bookZ : Value := .agg #[.slice none 0 0, .int .i64 0, .int .i64 0, .int .i64 0, .int .i64 0, .slice none 0 0, .int .i64 0]
def bookD {H : Type} : DataW H := .agg [.nil, .lit (.int .i64 0), .agg [.lit (.int .i64 0), .lit (.int .i64 0), .lit (.int .i64 0)], .nil, .lit (.int .i64 0)]
theorem want26 : Tryz.prog.wantsStandIn 26 = false := by kernel_rfl
theorem want3 : Tryz.prog.wantsStandIn 3 = false := by kernel_rfl
end Av
end
