/- Operations of the interpreter against the machine, second part: no condition. -/
import Derived.Test.YtnlflblfonkapaaGreatDoorAvMB
set_option linter.all false
set_option linter.unusedSectionVars false
set_option linter.unusedVariables false
set_option linter.unusedSimpArgs false
set_option linter.unnecessarySimpa false
section
/- Slices that grow; slices made; maps. -/
namespace Av
open Go

theorem growBy_le (need : Nat) : ∀ (r c : Nat), 256 ≤ c → c ≤ 2 * need → Builtin.growBy need r c ≤ 2 * need
  | 0, c, _, h => h
  | r + 1, c, h0, h => by
    unfold Builtin.growBy
    split
    · exact h
    · exact growBy_le need r _ (by omega) (by omega)
theorem nextcap_le {need cap : Nat} (h : cap < need) : Builtin.nextslicecap need cap ≤ 2 * need := by
  unfold Builtin.nextslicecap
  split
  · omega
  · split
    · omega
    · exact growBy_le need 4 cap (by omega) (by omega)

theorem zeroCells_size (zero : Array Value) (n : Nat) : (Builtin.zeroCells zero n).size = n * zero.size := by simp [Builtin.zeroCells]

theorem flat_us {S : Gh} {es : List AV} {sz : Nat} {us : Nat → Value} (hz : ∀ e ∈ es, e.cells.length = sz) (hV : ∀ i j, i < es.length → j < sz → VR S ((es.getD i .junk).cells.getD j .junk) (us (i * sz + j))) :
    VRs S (es.flatMap AV.cells) ((List.range (es.length * sz)).map us) := by
  refine .of (by simp [flat_len es hz]) fun i x v hx hv => ?_
  have hi : i < es.length * sz := by
    have := (List.getElem?_eq_some_iff.1 hv).1; simpa using this
  have h0 : 0 < sz := by
    rcases Nat.eq_zero_or_pos sz with h | h
    · subst h; simp at hi
    · exact h
  have hq : i = (i / sz) * sz + i % sz := by rw [Nat.mul_comm]; exact (Nat.div_add_mod i sz).symm
  have hdiv : i / sz < es.length := (Nat.div_lt_iff_lt_mul h0).2 hi
  have e1 := flat_get es (i / sz) (i % sz) hz hdiv (Nat.mod_lt _ h0)
  rw [← hq, List.getD_eq_getElem?_getD, hx] at e1
  simp [hi] at hv
  subst hv
  have := hV (i / sz) (i % sz) hdiv (Nat.mod_lt _ h0)
  rw [← hq, ← e1] at this
  exact this

/-- what is appended lies in cells that stay -/
theorem firstCells_run {P : Program} {S : Gh} {w : World} {es : List AV} {k : SK} {u : Value} {sz : Nat} (hG : ∀ c o v, S.G c o = some v → w.cell? ⟨c, o, none⟩ = some v) (hU : VR S (.sl es k) u) (hz : ∀ e ∈ es, e.cells.length = sz) :
    ∃ cells : List Value, (Builtin.firstCells sz es.length u).run P w = .ok cells.toArray w ∧ VRs S (es.flatMap AV.cells) cells := by
  rcases hU.sl_inv with ⟨c, o, cap, sz', us, rfl, hz', hG', hV, _⟩ | ⟨rfl, rfl, _⟩
  · have hsz : ∀ i, i < es.length * sz → i < es.length * sz' ∧ sz' = sz := by
      intro i hi
      cases es with
      | nil => simp at hi
      | cons a es =>
        have : sz' = sz := by rw [← hz' a (by simp), hz a (by simp)]
        subst this; exact ⟨hi, rfl⟩
    refine ⟨(List.range (es.length * sz)).map us, ?_, .of (by simp [flat_len es hz]) fun i x v hx hv => ?_⟩
    · unfold Builtin.firstCells
      exact run_loadCells w ⟨c, o, none⟩ _ us fun j hj => by rw [add_mk]; exact hG _ _ _ (hG' j (hsz j hj).1)
    · have hi : i < es.length * sz := by
        have := (List.getElem?_eq_some_iff.1 hv).1; simpa using this
      obtain ⟨hi', rfl⟩ := hsz i hi
      have h0 : 0 < sz' := by
        rcases Nat.eq_zero_or_pos sz' with h | h
        · subst h; simp at hi
        · exact h
      have hq : i = (i / sz') * sz' + i % sz' := by rw [Nat.mul_comm]; exact (Nat.div_add_mod i sz').symm
      have hdiv : i / sz' < es.length := (Nat.div_lt_iff_lt_mul h0).2 hi
      have e1 := flat_get es (i / sz') (i % sz') hz hdiv (Nat.mod_lt _ h0)
      rw [← hq, List.getD_eq_getElem?_getD, hx] at e1
      simp [hi] at hv
      subst hv
      have := hV (i / sz') (i % sz') hdiv (Nat.mod_lt _ h0)
      rw [← hq, ← e1] at this
      exact this
  · exact ⟨[], by simp [Builtin.firstCells], .nil⟩

theorem flat_shut {S : Gh} {es : List AV} {cells : List Value} {sz : Nat} (hz : ∀ e ∈ es, e.cells.length = sz) (h : VRs S (es.flatMap AV.cells) cells) : VRs S ((es.map AV.shutv).flatMap AV.cells) cells := by
  induction es generalizing cells with
  | nil => exact h
  | cons a es ih =>
    simp only [List.flatMap_cons, List.map_cons] at h ⊢
    have hl := h.1
    simp only [List.length_append] at hl
    have h1 : VRs S a.cells (cells.take a.cells.length) := by
      have := h.take a.cells.length; simpa using this
    have h2 : VRs S (es.flatMap AV.cells) (cells.drop a.cells.length) := by
      have := h.drop a.cells.length; simpa using this
    have h2' := ih (fun x hx => hz x (by simp [hx])) h2
    have h1' : VRs S a.shutv.cells (cells.take a.cells.length) := by
      cases a with
      | agg cs =>
        simp only [AV.shutv, AV.shut2, AV.cells, shuts_eq] at h1 ⊢
        exact h1.map fun _ _ h => h.shut1
      | tup vs =>
        refine .of (by simpa [AV.shutv, AV.cells] using h1.1) fun i x v hx hv => ?_
        obtain ⟨u, hu⟩ : ∃ u, cells.take 1 = [u] := by
          have := h1.1; simp [AV.cells] at this
          cases cells with
          | nil => simp at this
          | cons u us => exact ⟨u, by simp⟩
        simp only [AV.cells, List.length_cons, List.length_nil] at hv h1
        rw [hu] at h1 hv
        cases i with
        | zero =>
          simp [AV.cells, AV.shutv] at hx hv
          subst hx; subst hv
          exact h1.head.shutv
        | succ i => simp at hv
      | _ =>
        exact h1.map (f := AV.shut1) (fun _ _ h => h.shut1)
    have := h1'.append h2'
    simpa using this
end Av
end

section
/- append. -/
namespace Av
open Go

section
variable {P : Program} {w : World} {t u el eu sz n sLen sCap ty : Nat} {xv : Value} {bx : Option Addr} {cx : Nat} {new : Array Value}

theorem app_in {c o : Nat} {w' : World} (hu : P.underlying t = some (.slice el)) (hz : szOf P el sz = true) (hu2 : P.underlying u = some (.slice eu)) (hx : xv = .slice bx n cx)
    (hnew : (Builtin.firstCells sz n xv).run P w = .ok new w) (hle : sLen + n ≤ sCap) (hst : (storeCells ⟨c, o + sLen * sz, none⟩ new.toList).run P w = .ok () w') :
    (Builtin.append_ #[t, u] ty #[.slice (some ⟨c, o, none⟩) sLen sCap, xv]).run P w = .ok (.slice (some ⟨c, o, none⟩) (sLen + n) sCap) w' := by
  subst hx
  simp [Builtin.append_, run_underlying hu, run_underlying hu2, sz_run hz, Builtin.lenOf, hle, hnew, add_mk, hst]

theorem app_none (hu : P.underlying t = some (.slice el)) (hz : szOf P el sz = true) (hu2 : P.underlying u = some (.slice eu)) (hx : xv = .slice bx 0 cx)
    (hnew : (Builtin.firstCells sz 0 xv).run P w = .ok #[] w) (b : Option Addr) (hle : sLen ≤ sCap) :
    (Builtin.append_ #[t, u] ty #[.slice b sLen sCap, xv]).run P w = .ok (.slice b sLen sCap) w := by
  subst hx
  cases b with
  | none => simp [Builtin.append_, run_underlying hu, run_underlying hu2, sz_run hz, Builtin.lenOf, hle, hnew]
  | some a => simp [Builtin.append_, run_underlying hu, run_underlying hu2, sz_run hz, Builtin.lenOf, hle, hnew, storeCells]

theorem app_grow {b : Option Addr} {old : Array Value} {ie : TypeInfo} {zv : Value} (hu : P.underlying t = some (.slice el)) (hz : szOf P el sz = true) (hu2 : P.underlying u = some (.slice eu)) (hx : xv = .slice bx n cx)
    (hi : P.info? el = some ie) (hz0 : ie.zero = some zv) (hzs : zv.cells.size = sz) (hb : 0 < ie.bytes) (hroom : roomFor (sLen + n) ie.bytes = true)
    (hold : (Builtin.firstCells sz sLen (.slice b sLen sCap)).run P w.drew = .ok old w.drew)
    (hnew' : (Builtin.firstCells sz n xv).run P w.drew = .ok new w.drew) (hgt : sCap < sLen + n) :
    ∃ newCap rest, sLen + n ≤ newCap ∧ rest.size = (newCap - (sLen + n)) * sz ∧
      (Builtin.append_ #[t, u] ty #[.slice b sLen sCap, xv]).run P w = .ok (.slice (some ⟨w.heap.size, 0, none⟩) (sLen + n) newCap) (w.drew.alloc (.cells (old ++ new ++ rest) el (0, 0))) := by
  subst hx
  have hnle : ¬ sLen + n ≤ sCap := by omega
  have hroom' : (sLen + n) * ie.bytes ≤ 140737488355328 ∧ sLen + n ≤ 4611686018427387904 := by simpa [roomFor] using hroom
  have hbig : ¬ Builtin.nextslicecap (sLen + n) sCap * ie.bytes > 2 ^ 48 := by
    have h1 := nextcap_le hgt
    have h2 := Nat.mul_le_mul_right ie.bytes h1
    have h3 : 2 * (sLen + n) * ie.bytes = 2 * ((sLen + n) * ie.bytes) := Nat.mul_assoc ..
    omega
  refine ⟨(sLen + n) + (w.tape w.drawn (.appendCap (sLen + n) sCap el)) % (2 ^ 63 - (sLen + n)), Builtin.zeroCells zv.cells ((sLen + n) + (w.tape w.drawn (.appendCap (sLen + n) sCap el)) % (2 ^ 63 - (sLen + n)) - (sLen + n)), Nat.le_add_right _ _, by rw [zeroCells_size, hzs], ?_⟩
  have hmax : IntKind.i64.max = 9223372036854775807 := rfl
  simp only [Builtin.append_]
  have hd : ∀ w', (zeroValue el).run P w' = .ok zv w' := fun w' => by simp [zeroValue, run_typeInfo w' hi, hz0]
  have hbig' : ¬ (2 ^ 48 < Builtin.nextslicecap (sLen + n) sCap * ie.bytes) := hbig
  simp [run_underlying hu, run_underlying hu2, sz_run hz, Builtin.lenOf, hnle, run_typeInfo w hi, Nat.ne_of_gt hb]
  rw [if_neg (by omega), if_neg (by simp [Question.forced]), run_typeInfo w.drew hi]
  simp only [Result.andThen_ok, hold, hnew', hd, run_newRow']
  simp [Question.cut]
end

section
variable {P : Program} {chk : Nat → List Nat → Code → ACode → Bool} {gl : Nat → List AV} {p : AProg} {N : Nat} {B D : List Nat} {S0 : Gh} {H0 : H} {w0 : World} {S : Gh} {H : H} {Pv : Nat → Option Nat} {e : Env} {tmps : Array Value} {w : World} {o : Oper} {v : AV}

/-- a token's block is written past what stays, and the token is spent for a new one -/
theorem FS.tokNext (h : FS chk gl N B D S0 H0 w0 S H Pv e tmps w) {t : Nat} {i i' : Tok} {arr arr' : Array Value} {el : Nat} {f : Nat → Option Value} (ht : H.get t = some .tok) (hi : S.T t = some i) (hc : i'.c = i.c)
    (hce : i'.ce ≤ arr'.size) (harr : w.heap[i.c]? = some (.cells arr el (0, 0))) (hle : ∀ o v, S.G i.c o = some v → f o = some v) (hf : ∀ o v, f o = some v → arr'[o]? = some v ∧ o < i'.hw) :
    FS chk gl N B D S0 H0 w0 ((S.addG i.c f).addT H.n i') ((H.put t .dead).new .tok) Pv e tmps (w.setRow i.c arr') ∧ S.le ((S.addG i.c f).addT H.n i') := by
  have hheap' := setRow_heap w i.c arr arr' el (0, 0) harr
  have hoth : ∀ b, b ≠ i.c → (w.setRow i.c arr').heap[b]? = w.heap[b]? := fun b hb => by
    unfold World.setRow; simp [Array.getElem?_modify, Ne.symm hb]
  have hsize : (w.setRow i.c arr').heap.size = w.heap.size := by simp [World.setRow]
  obtain ⟨j, arr2, el2, q1, q2, q3, q4, q5⟩ := h.wr.tok t ht
  rw [hi] at q1; cases q1
  have hno : ¬ own S (H.put t .dead) i.c := by
    rintro (⟨b, o', g1, g2, g3⟩ | ⟨t', j', g1, g2, g3⟩)
    · by_cases hb : b = t
      · subst hb; simp [Av.H.put] at g2; subst g2; cases g3
      · simp [Av.H.put, hb] at g2; exact q5 ⟨b, o', g1, g2, g3⟩
    · by_cases hb : t' = t
      · subst hb; simp [Av.H.put] at g1
      · simp [Av.H.put, hb] at g1
        exact hb (h.wr.tokinj t' t j' i g1 ht g2 hi g3)
  have h1 := h.wr.kill ht
  have h2 : WR chk gl S (H.put t .dead) (w.setRow i.c arr') := h1.frame' harr hsize hoth (fun o v hv => by
    rw [cell_of_row _ _ _ arr' el (0, 0) hheap']; exact (hf o v (hle o v hv)).1) hno
  have h3 := h2.addG (f := f) hle (fun o v hv => by rw [cell_of_row _ _ _ arr' el (0, 0) hheap']; exact (hf o v hv).1) hno
  have h4 := h3.addTok (i := i') (arr := arr') (el := el) (by rw [hc]; exact hheap') hce (fun o v hv => by
    rw [hc] at hv
    simp only [Gh.addG, if_true] at hv
    exact (hf o v hv).2) (by rw [hc]; exact hno)
  have hn : (H.put t .dead).n = H.n := rfl
  rw [hn] at h4
  have hTn : S.T H.n = none := (h.wr.fresh H.n (Nat.le_refl _)).2.1
  have hle1 := Gh.le_addG hle
  have hle2 : (S.addG i.c f).le ((S.addG i.c f).addT H.n i') := Gh.le_addT hTn
  have hSle := hle1.trans hle2
  have hown : own S H i.c := .inr ⟨t, i, ht, hi, rfl⟩
  have hk : Keep S H w ((S.addG i.c f).addT H.n i') ((H.put t .dead).new .tok) (w.setRow i.c arr') := by
    refine ⟨hSle, by omega, fun c' hc' hno' => hoth c' fun hcc => hno' (hcc ▸ hown), fun c' hc' ho => ?_, fun c' o' hc' hno' => ?_, fun _ _ _ => rfl, .row w _ _⟩
    · rcases ho with ⟨b, o', g1, g2, g3⟩ | ⟨t', j', g1, g2, g3⟩
      · by_cases hb : b = H.n
        · subst hb; simp [Av.H.new, Av.H.put] at g2; subst g2; cases g3
        · by_cases hb' : b = t
          · subst hb'; simp [Av.H.new, Av.H.put, hb] at g2; subst g2; cases g3
          · simp [Av.H.new, Av.H.put, hb, hb'] at g2; exact .inl ⟨b, o', g1, g2, g3⟩
      · by_cases hb : t' = H.n
        · subst hb; simp [Gh.addT] at g2; subst g2; rw [← g3, hc]; exact hown
        · simp [Gh.addT, hb] at g2
          by_cases hb' : t' = t
          · subst hb'; simp [Av.H.new, Av.H.put, hb] at g1
          · simp [Av.H.new, Av.H.put, hb, hb'] at g1; exact .inr ⟨t', j', g1, g2, g3⟩
    · have : c' ≠ i.c := fun hcc => hno' (hcc ▸ hown)
      simp [Gh.addT, Gh.addG, this]
  exact ⟨⟨h4, h.fr.keep h.pv hk, h.pv.keep hk, h.kp.trans hk, h.nw, h.nd⟩, hSle⟩

theorem FS.drew (h : FS chk gl N B D S0 H0 w0 S H Pv e tmps w) : FS chk gl N B D S0 H0 w0 S H Pv e tmps w.drew :=
  ⟨h.wr.drew, h.fr.keep h.pv .drew, h.pv.keep .drew, h.kp.trans .drew, h.nw, h.nd⟩

/-- an object that nobody owns is forgotten -/
theorem FS.kill (h : FS chk gl N B D S0 H0 w0 S H Pv e tmps w) {t : Nat} (ht : H.get t = some .tok) : FS chk gl N B D S0 H0 w0 S (H.put t .dead) Pv e tmps w := by
  have hk : Keep S H w S (H.put t .dead) w := by
    refine ⟨.refl _, Nat.le_refl _, fun _ _ _ => rfl, fun c hc ho => ?_, fun _ _ _ _ => rfl, fun _ _ _ => rfl, .refl _⟩
    rcases ho with ⟨b, o', g1, g2, g3⟩ | ⟨t', j', g1, g2, g3⟩
    · by_cases hb : b = t
      · subst hb; simp [Av.H.put] at g2; subst g2; cases g3
      · simp [Av.H.put, hb] at g2; exact .inl ⟨b, o', g1, g2, g3⟩
    · by_cases hb : t' = t
      · subst hb; simp [Av.H.put] at g1
      · simp [Av.H.put, hb] at g1; exact .inr ⟨t', j', g1, g2, g3⟩
  exact ⟨h.wr.kill ht, h.fr.keep h.pv hk, h.pv.keep hk, h.kp.trans hk, h.nw, h.nd⟩

/-- a new block, its first cells to stay, the rest a new token's -/
theorem FS.tokNew (h : FS chk gl N B D S0 H0 w0 S H Pv e tmps w) (arr : Array Value) (el m : Nat) (hm : m ≤ arr.size) :
    FS chk gl N B D S0 H0 w0 ((S.addG w.heap.size fun o => if o < m then arr[o]? else none).addT H.n ⟨w.heap.size, m, arr.size⟩) (H.new .tok) Pv e tmps (w.alloc (.cells arr el (0, 0))) ∧
      S.le ((S.addG w.heap.size fun o => if o < m then arr[o]? else none).addT H.n ⟨w.heap.size, m, arr.size⟩) := by
  have hGn : ∀ o, S.G w.heap.size o = none := h.wr.G_none (Nat.le_refl _)
  have hle1 : S.le (S.addG w.heap.size fun o => if o < m then arr[o]? else none) := Gh.le_addG fun o v hv => by rw [hGn] at hv; cases hv
  have hTn : S.T H.n = none := (h.wr.fresh H.n (Nat.le_refl _)).2.1
  have hle2 : (S.addG w.heap.size fun o => if o < m then arr[o]? else none).le ((S.addG w.heap.size fun o => if o < m then arr[o]? else none).addT H.n ⟨w.heap.size, m, arr.size⟩) := Gh.le_addT hTn
  have hno : ¬ own S H w.heap.size := fun ho => Nat.lt_irrefl _ (h.wr.own_lt ho)
  have h1 := (h.wr.alloc (.cells arr el (0, 0))).addG (c := w.heap.size) (f := fun o => if o < m then arr[o]? else none) (fun o v hv => by rw [hGn] at hv; cases hv) (fun o v hv => by
    rw [cell_of_row _ _ _ arr el (0, 0) (heap_alloc_at w _)]
    split at hv
    · exact hv
    · cases hv) hno
  have h2 := h1.addTok (i := ⟨w.heap.size, m, arr.size⟩) (arr := arr) (el := el) (heap_alloc_at w _) (Nat.le_refl _) (fun o v hv => by
    simp only [Gh.addG, if_true] at hv
    split at hv
    · assumption
    · cases hv) hno
  have hk : Keep S H w ((S.addG w.heap.size fun o => if o < m then arr[o]? else none).addT H.n ⟨w.heap.size, m, arr.size⟩) (H.new .tok) (w.alloc (.cells arr el (0, 0))) := by
    refine ⟨hle1.trans hle2, by simp, fun c hc _ => heap_alloc_any w _ c hc, fun c hc ho => ?_, fun c o' hc _ => ?_, fun _ _ _ => rfl, .alloc w rfl⟩
    · rcases ho with ⟨b, o', g1, g2, g3⟩ | ⟨t', j', g1, g2, g3⟩
      · by_cases hb : b = H.n
        · subst hb; simp [Av.H.new] at g2; subst g2; cases g3
        · simp [Av.H.new, hb] at g2; exact .inl ⟨b, o', g1, g2, g3⟩
      · by_cases hb : t' = H.n
        · subst hb; simp [Gh.addT] at g2; subst g2; simp at g3; omega
        · simp [Gh.addT, hb] at g2; simp [Av.H.new, hb] at g1; exact .inr ⟨t', j', g1, g2, g3⟩
    · have : c ≠ w.heap.size := by omega
      simp [Gh.addT, Gh.addG, this]
  exact ⟨⟨h2, h.fr.keep h.pv hk, h.pv.keep hk, h.kp.trans hk, h.nw, h.nd⟩, hle1.trans hle2⟩
end
end Av
end

section
/- append, as a step; slices and maps that are made. -/
namespace Av
open Go

theorem two_args {N : Nat} {c : Call} {s x : Opd} (h : chkXs N c.args.toList [s, x] = true) : ∃ y z, c.args = #[y, z] ∧ chkX N y s = true ∧ chkX N z x = true := by
  cases hl : c.args.toList with
  | nil => rw [hl] at h; simp [chkXs] at h
  | cons y ys => cases ys with
    | nil => rw [hl] at h; simp [chkXs] at h
    | cons z zs => cases zs with
      | nil =>
        rw [hl] at h; simp [chkXs] at h
        exact ⟨y, z, by rw [← Array.toArray_toList (xs := c.args), hl], h.1, h.2⟩
      | cons => rw [hl] at h; simp [chkXs] at h

theorem appT_ok {P : Program} {c : Call} {sz bytes : Nat} (h : appT P c sz bytes = true) : ∃ t u el eu ie zv, c.argTypes = #[t, u] ∧ P.underlying t = some (.slice el) ∧ szOf P el sz = true ∧ P.info? el = some ie ∧ ie.bytes = bytes ∧ 0 < ie.bytes ∧ 0 < sz ∧ ie.zero = some zv ∧ zv.cells.size = sz ∧ P.underlying u = some (.slice eu) := by
  unfold appT at h
  split at h
  · rename_i t u htu
    simp only [Bool.and_eq_true] at h
    obtain ⟨h1, h2⟩ := h
    split at h1
    · rename_i el hu
      simp only [Bool.and_eq_true, decide_eq_true_eq] at h1
      obtain ⟨⟨⟨h3, h4⟩, h5⟩, h6⟩ := h1
      unfold byOf at h4
      split at h6
      · rename_i ie hie
        rw [hie] at h4
        simp only [Bool.and_eq_true, beq_iff_eq, decide_eq_true_eq] at h4
        split at h6
        · rename_i zv hz
          split at h2
          · rename_i eu hu2
            exact ⟨t, u, el, eu, ie, zv, by rw [← Array.toArray_toList (xs := c.argTypes), htu], hu, h3, hie, h4.1, by omega, h5, hz, by simpa using h6, hu2⟩
          · cases h2
        · cases h6
      · cases h6
    · cases h1
  · cases h

section
variable {P : Program} {chk : Nat → List Nat → Code → ACode → Bool} {p : AProg} {N : Nat} {B D : List Nat} {S0 : Gh} {H0 : H} {w0 : World} {S : Gh} {H : H} {Pv : Nat → Option Nat} {e : Env} {tmps : Array Value} {w : World} {o : Oper} {v : AV}
variable (h : FS chk p.glob N B D S0 H0 w0 S H Pv e tmps w) (hd : ∀ k, o.dst = some k → k < N ∧ k ∉ B)
include h hd

theorem h_append {sz bytes s x H'} (hc : chkH P N o (.append sz bytes s x) = true) (hs : stepH p e H (.append sz bytes s x) = some (v, H')) : Step1 P chk p.glob N B D S0 H0 w0 o tmps w (e.dst o.dst v) H' := by
  simp only [chkH] at hc
  split at hc
  · rename_i c ho
    simp only [Bool.and_eq_true] at hc
    obtain ⟨⟨h1, h2⟩, h3⟩ := hc
    split at h1
    · rename_i hcal
      obtain ⟨y, z, hargs, hy, hz⟩ := two_args h3
      obtain ⟨t, u, el, eu, ie, zv, htys, hu, hsz, hie, hby, hb0, hs0, hzv, hzs, hu2⟩ := appT_ok h2
      have hexec : ∀ {r w'}, (Builtin.append_ #[t, u] o.type #[evalT tmps y, evalT tmps z]).run P w = .ok r w' → (execOp (evalT tmps) o).run P w = .ok (.value r) w' := by
        intro r w' hr
        simp [execOp, ho, resolve, hcal, invoke, builtin, htys, hargs, hr]
      simp only [stepH] at hs
      split at hs
      · rename_i es k xv hes hxv
        split at hs
        · rename_i nw hnw
          have hS := ev_ok h.wr h.fr hy hes
          have hX := ev_ok h.wr h.fr hz hxv
          -- what is appended
          obtain ⟨k', rfl, hnz, hnf⟩ : ∃ k', xv = .sl nw k' ∧ (∀ a ∈ nw, a.cells.length = sz) ∧ ∀ a ∈ nw, a.flats = true := by
            unfold elemsOf at hnw
            split at hnw
            · split at hnw
              · rename_i hall; cases hnw
                exact ⟨_, rfl, fun a ha => by have := List.all_eq_true.1 hall a ha; simp at this; exact this.1, fun a ha => by have := List.all_eq_true.1 hall a ha; simp at this; exact this.2⟩
              · cases hnw
            · cases hnw
          obtain ⟨bx, cx, hxE⟩ := hX.sl_len
          obtain ⟨ncells, hfc, hnV⟩ := firstCells_run (P := P) (w := w) h.wr.G hX hnz
          obtain ⟨bs, cs, hsE⟩ := hS.sl_len
          by_cases hn0 : nw.length = 0
          · rw [if_pos hn0] at hs
            cases hs
            have hnil : nw = [] := List.length_eq_zero_iff.1 hn0
            subst hnil
            have hcnil : ncells = [] := by have := hnV.1; simpa using this
            subst hcnil
            have hcap : es.length ≤ cs := by
              rcases hS.sl_inv with ⟨c', o', cap, sz', us, hE, _, _, _, hK⟩ | ⟨rfl, hE, _⟩
              · rw [hsE] at hE; cases hE
                cases k with
                | exact => exact Nat.le_of_eq hK.symm
                | opn t => exact hK.2.1
                | shut => exact hK
              · exact Nat.zero_le _
            have := app_none (P := P) (w := w) (ty := o.type) (bx := bx) (cx := cx) hu hsz hu2 hxE (by simpa using hfc) bs hcap
            refine ⟨S, Pv, w, _, evalT tmps y, hexec (by rw [hsE]; exact this), .inl (by rw [hsE]), h.put hd (.inl hS)⟩
          · rw [if_neg hn0] at hs
            split at hs
            · rename_i hcond
              obtain ⟨hall, hroom⟩ := hcond
              have hez : ∀ a ∈ es, a.cells.length = sz := fun a ha => by have := List.all_eq_true.1 hall a ha; simpa using this
              have hnw' : ∀ a ∈ nw.map AV.shutv, a.cells.length = sz := fun a ha => by
                obtain ⟨b, hb, rfl⟩ := List.mem_map.1 ha
                rw [shutv_cells_length]; exact hnz b hb
              have hboth : ∀ a ∈ es ++ nw.map AV.shutv, a.cells.length = sz := fun a ha => by
                rcases List.mem_append.1 ha with ha | ha
                · exact hez a ha
                · exact hnw' a ha
              -- a new block
              have grow : ∀ (H1 : Av.H), FS chk p.glob N B D S0 H0 w0 S H1 Pv e tmps w → cs < es.length + nw.length →
                  Step1 P chk p.glob N B D S0 H0 w0 o tmps w (e.dst o.dst (.sl (es ++ nw.map AV.shutv) (.opn H1.n))) (H1.new .tok) := by
                intro H1 h1 hgt
                obtain ⟨oc, hold, hoV⟩ := firstCells_run (P := P) (w := w.drew) (S := S) (es := es) (k := k) (fun c o v hv => h.wr.G c o v hv) hS hez
                obtain ⟨nc, hnew, hnV2⟩ := firstCells_run (P := P) (w := w.drew) (S := S) (es := nw) (k := k') (fun c o v hv => h.wr.G c o v hv) hX hnz
                obtain ⟨newCap, rest, hle, hrest, hrun⟩ := app_grow (P := P) (w := w) (ty := o.type) (sz := sz) (bx := bx) (cx := cx) (b := bs) (xv := evalT tmps z) hu hsz hu2 hxE hie hzv hzs hb0 (by rw [hby]; exact hroom)
                  (by rw [← hsE]; exact hold) hnew hgt
                have hol : oc.length = es.length * sz := by rw [hoV.1, flat_len es hez]
                have hnl : nc.length = nw.length * sz := by rw [hnV2.1, flat_len nw hnz]
                have hsize : (oc.toArray ++ nc.toArray ++ rest).size = newCap * sz := by
                  simp [hol, hnl, hrest]
                  rw [← Nat.add_mul, ← Nat.add_mul]
                  congr 1; omega
                obtain ⟨hFS, hSle⟩ := h1.drew.tokNew (oc.toArray ++ nc.toArray ++ rest) el ((es.length + nw.length) * sz) (by rw [hsize]; exact Nat.mul_le_mul_right _ hle)
                refine ⟨_, Pv, _, _, _, hexec (by rw [hsE]; exact hrun), .inl rfl, hFS.put hd (.inl ?_)⟩
                have hVV : VRs S ((es ++ nw.map AV.shutv).flatMap AV.cells) (oc ++ nc) := by
                  rw [List.flatMap_append]; exact hoV.append (flat_shut hnz hnV2)
                have := VR.mkSl (k := .opn H1.n) (c := w.heap.size) (o := 0) (cap := newCap) (sz := sz) hboth (hVV.mono hSle) (fun i v hv => by
                  have hil : i < oc.length + nc.length := by have := (List.getElem?_eq_some_iff.1 hv).1; simpa using this
                  rw [Nat.zero_add]
                  have hw : w.drew.heap.size = w.heap.size := rfl
                  simp only [Gh.addT, Gh.addG, hw, if_true]
                  rw [if_pos (by rw [Nat.add_mul]; omega)]
                  rw [Array.getElem?_append_left (by simp; omega)]
                  simpa using hv) (by
                    refine ⟨by simp; omega, by simpa using hle, ?_⟩
                    have hw : w.drew.heap.size = w.heap.size := rfl
                    simp only [Gh.addT, if_true, hw, hsize]
                    simp)
                have hlen : (es ++ nw.map AV.shutv).length = es.length + nw.length := by simp
                rw [hlen] at this
                exact this
              split at hs
              · -- exact
                cases hs
                refine grow H h ?_
                rcases hS.sl_inv with ⟨c', o', cap, sz', us, hE, _, _, _, hK⟩ | ⟨rfl, hE, _⟩
                · rw [hsE] at hE; cases hE
                  have : cs = es.length := hK
                  omega
                · rw [hsE] at hE; cases hE; simp; omega
              · rename_i tk
                split at hs
                · rename_i htk
                  cases hs
                  by_cases hfit : es.length + nw.length ≤ cs
                  · rcases hS.sl_inv with ⟨c', o', cap, sz', us, hE, hz', hG', hV', hK⟩ | ⟨rfl, hE, hk⟩
                    · rw [hsE] at hE; cases hE
                      obtain ⟨hK1, hK2, hK3⟩ := hK
                      have hszz : sz' = sz := by
                        cases es with
                        | nil => simp at hK1
                        | cons a es => rw [← hz' a (by simp), hez a (by simp)]
                      subst hszz
                      obtain ⟨i, arr, el', q1, q2, q3, q4, q5⟩ := h.wr.tok tk htk
                      rw [hK3] at q1; cases q1
                      simp only at q2 q3 q4 q5
                      have hnl : ncells.length = nw.length * sz' := by rw [hnV.1, flat_len nw hnz]
                      have hm1 : (es.length + nw.length) * sz' ≤ cs * sz' := Nat.mul_le_mul_right _ hfit
                      rw [Nat.add_mul] at hm1
                      have hone : ∀ x ∈ ncells, x.oneCell' = true := fun x hx => by
                        obtain ⟨j, hj, rfl⟩ := List.mem_iff_getElem.1 hx
                        have hj' : j < (nw.flatMap AV.cells).length := by rw [← hnV.1]; exact hj
                        have hjv := hnV.2 j hj'
                        rw [List.getD_eq_getElem?_getD, List.getD_eq_getElem?_getD, List.getElem?_eq_getElem hj, List.getElem?_eq_getElem hj'] at hjv
                        refine oneCell_of hjv ?_
                        obtain ⟨a, ha, hb⟩ := List.mem_flatMap.1 (List.getElem_mem hj')
                        exact flats_cells (hnf a ha) _ hb
                      have hst := run_storeCells_at (P := P) c' (o' + es.length * sz') el' ncells 0 arr w q2 (by omega) hone
                      rw [Nat.add_zero] at hst
                      generalize harr : (arr.toList.take (o' + es.length * sz') ++ ncells ++ arr.toList.drop (o' + es.length * sz' + ncells.length)).toArray = arr' at hst
                      have hasz : arr'.size = arr.size := by rw [← harr]; simp; omega
                      have hget : ∀ q, arr'[q]? = if q < o' + es.length * sz' then arr[q]? else if q < o' + es.length * sz' + ncells.length then ncells[q - (o' + es.length * sz')]? else arr[q]? := by
                        intro q
                        rw [← harr]
                        simp only [List.getElem?_toArray]
                        by_cases c1 : q < o' + es.length * sz'
                        · rw [if_pos c1, List.append_assoc, List.getElem?_append_left (by simp; omega), List.getElem?_take, if_pos c1]; simp
                        · rw [if_neg c1]
                          by_cases c2 : q < o' + es.length * sz' + ncells.length
                          · rw [if_pos c2, List.append_assoc, List.getElem?_append_right (by simp; omega), List.getElem?_append_left (by simp; omega)]
                            congr 1; simp; omega
                          · rw [if_neg c2, List.getElem?_append_right (by simp; omega), List.getElem?_drop]
                            simp
                            congr 1; omega
                      obtain ⟨hFS, hSle⟩ := h.tokNext (i' := ⟨c', o' + (es.length + nw.length) * sz', o' + cs * sz'⟩) (arr' := arr') (el := el')
                        (f := fun q => if q < o' + es.length * sz' then S.G c' q else if q < o' + es.length * sz' + ncells.length then ncells[q - (o' + es.length * sz')]? else none) htk hK3 rfl (by simp only; omega) q2
                        (fun q v hv => by have := q4 q v hv; simp only at hv; rw [if_pos this]; exact hv) (fun q v hv => by
                          rw [hget q]
                          simp only at hv ⊢
                          rw [Nat.add_mul]
                          split at hv
                          · rename_i c1
                            have hc1 := h.wr.G c' q v hv
                            rw [cell_of_row w c' q arr el' _ q2] at hc1
                            rw [if_pos c1]; exact ⟨hc1, by omega⟩
                          · rename_i c1
                            split at hv
                            · rename_i c2
                              rw [if_neg c1, if_pos c2]; exact ⟨hv, by omega⟩
                            · cases hv)
                      have hrun := app_in (P := P) (w := w) (ty := o.type) (t := t) (u := u) (bx := bx) (cx := cx) (c := c') (o := o') (sLen := es.length) (sCap := cs) hu hsz hu2 hxE hfc hfit (by simpa using hst)
                      refine ⟨_, Pv, _, _, _, hexec (by rw [hsE]; exact hrun), .inl rfl, hFS.put hd (.inl ?_)⟩
                      have hVV : VRs S ((es ++ nw.map AV.shutv).flatMap AV.cells) ((List.range (es.length * sz')).map us ++ ncells) := by
                        rw [List.flatMap_append]; exact (flat_us hez hV').append (flat_shut hnz hnV)
                      have := VR.mkSl (k := .opn H.n) (c := c') (o := o') (cap := cs) (sz := sz') hboth (hVV.mono hSle) (fun i v hv => by
                        simp only [Gh.addT, Gh.addG, if_true]
                        by_cases c1 : i < es.length * sz'
                        · rw [if_pos (by omega)]
                          rw [List.getElem?_append_left (by simpa using c1)] at hv
                          simp [c1] at hv
                          rw [← hv]; exact hG' i c1
                        · have hil : i < es.length * sz' + ncells.length := by have := (List.getElem?_eq_some_iff.1 hv).1; simpa using this
                          rw [if_neg (by omega), if_pos (by omega)]
                          rw [List.getElem?_append_right (by simpa using c1)] at hv
                          simp at hv
                          rw [show o' + i - (o' + es.length * sz') = i - es.length * sz' by omega]; exact hv) (by
                          refine ⟨by simp; omega, by simpa using hfit, ?_⟩
                          simp [Gh.addT])
                      have hlen : (es ++ nw.map AV.shutv).length = es.length + nw.length := by simp
                      rw [hlen] at this
                      exact this
                    · exact absurd rfl (hk tk)
                  · exact grow _ (h.kill htk) (by omega)
                · cases hs
              · cases hs
            · cases hs
        · cases hs
      · cases hs
    · cases h1
  · cases hc
end
end Av
end

section
/- Slices and maps that are made or written. -/
namespace Av
open Go

theorem wrap_small {n : Int} (h0 : 0 ≤ n) (h1 : n ≤ 1048576) : IntKind.i64.wrap n = n := by
  unfold IntKind.wrap
  simp [IntKind.bits, IntKind.signed]
  omega

theorem getD_toList (arr : Array Value) (i : Nat) : arr.getD i undef = arr.toList.getD i undef := by simp [List.getD_eq_getElem?_getD, Array.getD_eq_getD_getElem?]

/-- two keys that are one are so bit by bit -/
theorem aeqs_same {S : Gh} {d : Nat} : ∀ (xs ys : List AV) (us us' : List Value), VRs S xs us → VRs S ys us' → aeqs xs ys = some true → us.length = us'.length ∧ (us'.zip us).all (fun q => Instr.sameBits (d + 1) q.1 q.2) = true
  | [], [], us, us', h, h', _ => by
    have e1 : us = [] := List.length_eq_zero_iff.1 h.1
    have e2 : us' = [] := List.length_eq_zero_iff.1 h'.1
    subst e1; subst e2; exact ⟨rfl, rfl⟩
  | x :: xs, y :: ys, us, us', h, h', hh => by
    cases us with
    | nil => have := h.1; simp at this
    | cons u us => cases us' with
      | nil => have := h'.1; simp at this
      | cons u' us' =>
        unfold aeqs at hh
        split at hh
        · rename_i b1 b2 h1 h2
          cases b1 <;> cases b2 <;> simp at hh
          obtain ⟨k, m, n, rfl, rfl, hb⟩ := aeq1_inv h.head h'.head h1
          have hmn : m = n := by simpa using hb.symm
          subst hmn
          obtain ⟨q1, q2⟩ := aeqs_same (d := d) xs ys us us' h.tail h'.tail h2
          exact ⟨by simp [q1], by simp only [List.zip_cons_cons, List.all_cons, q2, Bool.and_true, Instr.sameBits, beq_self_eq_true, Bool.and_self]⟩
        · cases hh
  | [], _ :: _, _, _, _, _, hh => by simp [aeqs] at hh
  | _ :: _, [], _, _, _, _, hh => by simp [aeqs] at hh

theorem eqk_same {S : Gh} {n : Nat} {x y : AV} {u u' : Value} (hx : VR S x u) (hy : VR S y u') (h : eqk (some n) x y = some true) : Instr.sameBits 10000 u' u = true := by
  unfold eqk at h
  split at h
  · rename_i heq; cases heq
  · rename_i n' xs ys hn
    split at h
    · obtain ⟨us, rfl, hU⟩ := hx.agg_inv
      obtain ⟨us', rfl, hU'⟩ := hy.agg_inv
      obtain ⟨q1, q2⟩ := aeqs_same (d := 9998) xs ys us.toList us'.toList hU hU' h
      simp only [Instr.sameBits, Bool.and_eq_true, beq_iff_eq]
      exact ⟨by simpa using q1.symm, q2⟩
    · cases h
  · cases h

theorem born_push {ents : Array MapEntry} {clock : Nat} (h : clock = ents.size) (hb : ∀ i, i < ents.size → (ents.getD i default).born = i) {k v : Value} : BornOK (ents.push { key := k, val := v, born := clock }) (clock + 1) := by
  refine ⟨by simp [h], fun i hi => ?_⟩
  simp at hi
  by_cases hq : i < ents.size
  · have := hb i hq
    simp [Array.getD_eq_getD_getElem?, Array.getElem?_push, show i ≠ ents.size by omega, hq] at this ⊢
    exact this
  · have : i = ents.size := by omega
    subst this
    simp [Array.getD_eq_getD_getElem?, h]
theorem born_mod {ents : Array MapEntry} {clock : Nat} (h : clock = ents.size) (hb : ∀ i, i < ents.size → (ents.getD i default).born = i) {f : MapEntry → MapEntry} (j : Nat) (hf : ∀ e, (f e).born = e.born) : BornOK (ents.modify j f) clock := by
  refine ⟨by simp [h], fun i hi => ?_⟩
  simp at hi
  have := hb i hi
  by_cases hj : j = i
  · subst hj
    simp [Array.getD_eq_getD_getElem?, Array.getElem_modify, hi, hf] at this ⊢
    exact this
  · simp [Array.getD_eq_getD_getElem?, Array.getElem_modify, hi, hj] at this ⊢
    exact this

section
variable {P : Program} {chk : Nat → List Nat → Code → ACode → Bool} {p : AProg} {N : Nat} {B D : List Nat} {S0 : Gh} {H0 : H} {w0 : World} {S : Gh} {H : H} {Pv : Nat → Option Nat} {e : Env} {tmps : Array Value} {w : World} {o : Oper} {v : AV}

theorem setk_run (hw : WR chk p.glob S H w) (hf : FR N B S Pv e tmps w) {kt n : Nat} (hk : keyT P kt n = true) {k v : AV} {u x : Value} (hU : VR S k u) (hX : VR S v x) : ∀ (es es' : List (AV × AV)) (ents : List MapEntry) (i : Nat), ents.length = es.length →
    (∀ j, j < es.length → VR S (es.getD j (.junk, .junk)).1 (ents.getD j default).key ∧ VR S (es.getD j (.junk, .junk)).2 (ents.getD j default).val) → setk n k v es = some es' →
    ∃ q, (Instr.findAsking kt u ents i).run P w = .ok q w ∧
      ((q = none ∧ es' = es ++ [(k, v)]) ∨ ∃ j val, q = some (i + j, val) ∧ j < es.length ∧ es' = es.set j (k, v) ∧ Instr.sameBits 10000 (ents.getD j default).key u = true)
  | [], es', ents, i, hl, _, h => by
    have : ents = [] := List.length_eq_zero_iff.1 hl
    subst this
    simp [setk] at h; subst h
    exact ⟨none, rfl, .inl ⟨rfl, rfl⟩⟩
  | (k', v') :: es, es', ents, i, hl, hE, h => by
    cases ents with
    | nil => simp at hl
    | cons en ents =>
      have hk' := hk
      simp only [keyT, Bool.and_eq_true] at hk'
      have h0 := hE 0 (by simp)
      simp at h0
      unfold setk at h
      split at h
      · rename_i heq
        cases h
        obtain ⟨he, _⟩ := equal_run (P := P) (w := w) hk'.1 hU h0.1 heq
        refine ⟨some (i, en.val), by simp [Instr.findAsking, he], .inr ⟨0, en.val, rfl, by simp, rfl, ?_⟩⟩
        simp only [List.getD_cons_zero]
        exact eqk_same hU h0.1 heq
      · rename_i heq
        obtain ⟨he, _⟩ := equal_run (P := P) (w := w) hk'.1 hU h0.1 heq
        cases hs : setk n k v es with
        | none => rw [hs] at h; cases h
        | some es1 =>
          rw [hs] at h; cases h
          obtain ⟨q, hq, hr⟩ := setk_run hw hf hk hU hX es es1 ents (i + 1) (by simpa using hl) (fun j hj => by have := hE (j + 1) (by simpa using hj); simpa using this) hs
          refine ⟨q, by simp [Instr.findAsking, he, hq], ?_⟩
          rcases hr with ⟨rfl, rfl⟩ | ⟨j, val, rfl, hj, rfl, hsb⟩
          · exact .inl ⟨rfl, rfl⟩
          · exact .inr ⟨j + 1, val, by congr 2; omega, by simpa using hj, rfl, by simpa using hsb⟩
      · cases h

variable (h : FS chk p.glob N B D S0 H0 w0 S H Pv e tmps w) (hd : ∀ k, o.dst = some k → k < N ∧ k ∉ B)
include h hd

theorem h_mkmap {H'} (hc : chkH P N o .mkmap = true) (hs : stepH p e H .mkmap = some (v, H')) : Step1 P chk p.glob N B D S0 H0 w0 o tmps w (e.dst o.dst v) H' := by
  simp only [stepH] at hs
  cases hs
  obtain ⟨hFS, hρ, hle⟩ := h.new (ao := .mp []) (ob := .map #[] 0) (a := none) (by simp) trivial ⟨#[], 0, heap_alloc_at w _, ⟨rfl, fun i hi => by simp at hi⟩, rfl, fun i hi => by simp at hi⟩
  have hrun : ∃ t r, o.op = .makeMap t r ∧ (Instr.makeMap t (r.map (evalT tmps))).run P w = .ok (.map (some w.heap.size)) (w.alloc (.map #[] 0)) := by
    simp only [chkH] at hc
    split at hc
    · rename_i t ho; exact ⟨t, none, ho, by simp [Instr.makeMap]⟩
    · rename_i t k n ho
      split at hc
      · rename_i a b hu
        exact ⟨t, _, ho, by simp [Instr.makeMap, run_underlying hu, evalT, asInt, asIntOf]⟩
      · cases hc
    · cases hc
  obtain ⟨t, r, ho, hrun⟩ := hrun
  refine ⟨_, _, _, _, .map (some w.heap.size), ?_, .inl rfl, hFS.put hd (.inl (.mp _ _ hρ))⟩
  simp only [execOp, ho, Sem.run_bind, hrun]
  rfl

theorem h_mslice {sz zs l c H'} (hc : chkH P N o (.mslice sz zs l c) = true) (hs : stepH p e H (.mslice sz zs l c) = some (v, H')) : Step1 P chk p.glob N B D S0 H0 w0 o tmps w (e.dst o.dst v) H' := by
  simp only [chkH] at hc
  split at hc
  · rename_i t l' c' ho
    simp only [Bool.and_eq_true, beq_iff_eq, decide_eq_true_eq] at hc
    obtain ⟨⟨⟨⟨h1, h2⟩, h3⟩, h4⟩, h5⟩ := hc
    split at h3
    · rename_i el hel
      obtain ⟨hu, hsz⟩ := slT_ok hel
      simp only [Bool.and_eq_true] at h3
      obtain ⟨h3, h6⟩ := h3
      split at h6
      · rename_i ie hie
        have hby : ie.bytes ≤ 1048576 := by simpa using h6
        simp only [stepH] at hs
        split at hs
        · rename_i kl ln kc cn hl hcn
          split at hs
          · rename_i hcond
            obtain ⟨q0, rfl, q1⟩ := hcond
            cases hs
            obtain ⟨z, hz, hv, _⟩ := zero_run (S := S) h3 w
            have hzl : z.cells.size = sz := by have := hv.1; simp at this; omega
            have hcells : VRs S ((List.replicate ln.toNat zs).flatten) ((Array.range (ln.toNat * sz)).map fun i => z.cells[i % z.cells.size]!).toList := by
              refine .of (by simp [h4]) fun i x u hx hu' => ?_
              have hi : i < ln.toNat * sz := by
                have := (List.getElem?_eq_some_iff.1 hu').1; simpa using this
              have hmod : i % sz < sz := Nat.mod_lt _ h5
              have hx' : zs[i % sz]? = some x := by
                rw [← hx]
                have key : ∀ (m i : Nat), i < m * sz → ((List.replicate m zs).flatten)[i]? = zs[i % sz]? := by
                  intro m
                  induction m with
                  | zero => intro i hi; simp at hi
                  | succ m ih =>
                    intro i hi
                    rw [List.replicate_succ, List.flatten_cons]
                    by_cases c1 : i < sz
                    · rw [List.getElem?_append_left (by omega), Nat.mod_eq_of_lt c1]
                    · rw [List.getElem?_append_right (by omega), ih _ (by rw [Nat.add_mul] at hi; omega), h4, ← Nat.mod_eq_sub_mod (by omega)]
                exact (key ln.toNat i hi).symm
              obtain ⟨u', hu1, hu2⟩ := hv.get hx'
              simp [hi, hzl] at hu'
              subst hu'
              simp at hu1
              rw [getElem!_def, hu1]; exact hu2
            have hl1 := (ev_ok h.wr h.fr h1 hl).int_inv
            have hc1 := (ev_ok h.wr h.fr h2 hcn).int_inv
            have hbn : ie.bytes * ln.toNat ≤ 1048576 * 1048576 := Nat.mul_le_mul hby (by omega)
            have hrun : (Instr.makeSlice t (.int kl ln) (.int kc ln)).run P w = .ok (.slice (some ⟨w.heap.size, 0, none⟩) ln.toNat ln.toNat) (w.alloc (.cells ((Array.range (ln.toNat * sz)).map fun i => z.cells[i % z.cells.size]!) el (0, 0))) := by
              have hbi : ¬ ((ie.bytes : Int) * ln > 2 ^ 48) := by
                have : (ie.bytes : Int) * ln = ((ie.bytes * ln.toNat : Nat) : Int) := by rw [Int.natCast_mul, Int.toNat_of_nonneg q0]
                rw [this]; omega
              have hna : ¬ ln < 0 := by omega
              have hd2 : ∀ w', (zeroValue el).run P w' = .ok z w' := fun w' => by
                obtain ⟨z', hz', _⟩ := zero_run (S := S) (P := P) h3 w'
                simp only [zeroValue, Sem.run_bind, run_typeInfo _ hie, Result.andThen_ok] at hz ⊢
                cases hq : ie.zero with
                | none => rw [hq] at hz; simp at hz
                | some zz => rw [hq] at hz; simp at hz; subst hz; simp
              unfold Instr.makeSlice
              simp only [Sem.run_bind, run_underlying hu, Result.andThen_ok, asInt, asIntOf, Sem.run_pure, run_typeInfo w hie, wrap_small q0 q1]
              have hbi' : ¬ (281474976710656 < (ie.bytes : Int) * ln) := by simpa using hbi
              have hem : ∀ f : Nat → Value, (Array.range 0).map f = #[] := fun f => by apply Array.ext <;> simp
              have hna' : decide (ln < 0) = false := by simp; omega
              by_cases hn0 : ln.toNat * sz = 0
              · simp [hn0, run_newRow', hbi', hna, hna', sz_run hsz, hem]
              · simp [hn0, hd2, run_newRow', hbi', hna, hna', sz_run hsz]
            obtain ⟨hFS, hρ, hle⟩ := h.new (ao := .cells ((List.replicate ln.toNat zs).flatten)) (ob := .cells ((Array.range (ln.toNat * sz)).map fun i => z.cells[i % z.cells.size]!) el (0, 0)) (a := some (ln.toNat * sz)) (by simp) rfl (by
              refine ⟨_, el, heap_alloc_at w _, by simp [h4], fun a ha => by simpa [Gh.bind] using ha.symm, fun i hi => ?_⟩
              have := (hcells.2 i hi).mono (S' := S.bind H.n w.heap.size (some (ln.toNat * sz))) (Gh.le_bind (h.wr.fresh _ (Nat.le_refl _)).1 (h.wr.fresh _ (Nat.le_refl _)).2.2.1)
              rw [getD_toList]; exact this)
            refine ⟨_, _, _, _, .slice (some ⟨w.heap.size, 0, none⟩) ln.toNat ln.toNat, ?_, .inl rfl, hFS.put hd (.inl (.msl _ _ _ _ _ _ hρ (Nat.le_refl _) (.inl rfl)))⟩
            simp only [execOp, ho, hl1, hc1, Sem.run_bind, hrun]
            rfl
          · cases hs
        · cases hs
      · cases h6
    · cases h3
  · cases hc
theorem h_mapupd {n m k x H'} (hn : o.dst = none) (hc : chkH P N o (.mapupd n m k x) = true) (hs : stepH p e H (.mapupd n m k x) = some (v, H')) : Step1 P chk p.glob N B D S0 H0 w0 o tmps w (e.dst o.dst v) H' := by
  have hc' : ∃ t m' k' x', (o.op = .mapUpdate t m' k' x' ∨ o.op = .insert t m' k' x') ∧ chkX N m' m = true ∧ chkX N k' k = true ∧ chkX N x' x = true ∧ ∃ kt et, P.underlying t = some (.map kt et) ∧ keyT P kt n = true := by
    simp only [chkH] at hc
    split at hc
    · rename_i t m' k' x' ho
      simp only [Bool.and_eq_true] at hc
      obtain ⟨⟨⟨h1, h2⟩, h3⟩, h4⟩ := hc
      split at h4
      · rename_i kt et hu; exact ⟨t, m', k', x', .inl ho, h1, h2, h3, kt, et, hu, h4⟩
      · cases h4
    · rename_i t m' k' x' ho
      simp only [Bool.and_eq_true] at hc
      obtain ⟨⟨⟨h1, h2⟩, h3⟩, h4⟩ := hc
      split at h4
      · rename_i kt et hu; exact ⟨t, m', k', x', .inr ho, h1, h2, h3, kt, et, hu, h4⟩
      · cases h4
    · cases hc
  obtain ⟨t, m', k', x', ho, h1, h2, h3, kt, et, hu, hk⟩ := hc'
  simp only [stepH] at hs
  split at hs
  · rename_i b kv xv hm hkv hxv
    split at hs
    · cases hs
    · rename_i hcond
      have hkl : keyLen n kv = true := by
        cases hq : keyLen n kv with
        | true => rfl
        | false => exact absurd (.inl hq) hcond
      split at hs
      · rename_i es hb
        split at hs
        · rename_i es' hset
          cases hs
          have hM := ev_ok h.wr h.fr h1 hm
          have hK := ev_ok h.wr h.fr h2 hkv
          have hX := ev_ok h.wr h.fr h3 hxv
          obtain ⟨c, hρ, hE⟩ : ∃ c, S.ρ b = some c ∧ evalT tmps m' = .map (some c) := by
            generalize evalT tmps m' = mv at hM
            cases hM with | mp _ c hh => exact ⟨c, hh, rfl⟩
          obtain ⟨_, ao, hg, hOR⟩ := h.wr.dom b c hρ
          rw [hb] at hg; cases hg
          obtain ⟨ents, clock, hheap, ⟨hsz, hER⟩, hclk, hbrn⟩ := hOR
          obtain ⟨us, hus, husn⟩ : ∃ us, evalT tmps k' = .agg us ∧ us.size = n := by
            unfold keyLen at hkl
            split at hkl
            · rename_i xs
              obtain ⟨us, h5, h6⟩ := hK.agg_inv
              exact ⟨us, h5, by have := h6.1; simp at this hkl; omega⟩
            · cases hkl
          have hget : (getObj c).run P w = .ok (.map ents clock) w := by simp [getObj, Sem.run, hheap]
          have hkey : (Instr.checkKey false 10000 kt (evalT tmps k')).run P w = .ok () w := by rw [hus]; exact key_check hk husn
          obtain ⟨q, hq, hr⟩ := setk_run h.wr h.fr hk hK hX es es' ents.toList 0 (by rw [Array.length_toList]; exact hsz) (fun j hj => by
            have := hER j hj; simpa [Array.getD_eq_getD_getElem?, List.getD_eq_getElem?_getD] using this) hset
          have hfk : (Instr.findKey kt (evalT tmps k') ents.toList).run P w = .ok q w := by
            have hk' := hk
            simp only [keyT, Bool.and_eq_true] at hk'
            obtain ⟨_, h2'⟩ := hk'
            split at h2'
            · rename_i fs hu'
              unfold Instr.findKey
              rw [Sem.run_bind, run_underlying hu']
              simp only [Result.andThen_ok]
              generalize ents.toList = el at hq
              cases el with
              | nil => simp [Instr.findAsking] at hq; subst hq; simp [Instr.findNow]
              | cons en el => rw [findNow_str]; exact hq
            · cases h2'
          have hset' : ∀ ob, (setObj c ob).run P w = .ok () { w with heap := w.heap.setIfInBounds c ob } := fun ob => by simp [setObj, Sem.run, hheap]
          have hlt : c < w.heap.size := (Array.getElem?_eq_some_iff.1 hheap).1
          have fin : ∀ (ents' : Array MapEntry) (clock' : Nat), ER S es' ents' → BornOK ents' clock' → (Instr.mapUpdate t (evalT tmps m') (evalT tmps k') (evalT tmps x')).run P w = .ok () { w with heap := w.heap.setIfInBounds c (.map ents' clock') } →
              Step1 P chk p.glob N B D S0 H0 w0 o tmps w (e.dst o.dst (.tup [])) (H.put b (.mp es')) := by
            intro ents' clock' hER' hB' hrun
            have hFS := h.putH (ao' := .mp es') hρ hb rfl (by simp) (w' := { w with heap := w.heap.setIfInBounds c (.map ents' clock') }) (by simp) (fun c' hc' => by simp [Array.getElem?_setIfInBounds_ne (Ne.symm hc')]) (.obj w hheap trivial trivial)
              ⟨ents', clock', by simp [hlt], hER', hB'⟩
            refine ⟨S, Pv, _, .skip, undef, ?_, .inr ⟨rfl, rfl⟩, by rw [hn]; exact hFS⟩
            rcases ho with ho | ho <;> simp only [execOp, ho, Sem.run_bind, hrun] <;> rfl
          rcases hr with ⟨rfl, rfl⟩ | ⟨j, val, rfl, hj, rfl, hsb⟩
          · refine fin (ents.push { key := evalT tmps k', val := evalT tmps x', born := clock }) (clock + 1) ⟨by simp [hsz], fun i hi => ?_⟩ (born_push hclk hbrn) ?_
            · by_cases hil : i < es.length
              · have := hER i hil
                simpa [List.getD_eq_getElem?_getD, Array.getD_eq_getD_getElem?, List.getElem?_append_left hil, Array.getElem?_push, show i ≠ ents.size by omega] using this
              · have : i = es.length := by simp at hi; omega
                subst this
                simp [List.getD_eq_getElem?_getD, Array.getD_eq_getD_getElem?, ← hsz]
                exact ⟨hK, hX⟩
            · simp [Instr.mapUpdate, run_underlying hu, hE, hget, hkey, hfk, hset']
          · refine fin (ents.modify j fun en => { en with key := evalT tmps k', val := evalT tmps x' }) clock ⟨by simp [hsz], fun i hi => ?_⟩ (born_mod hclk hbrn _ fun _ => rfl) ?_
            · simp at hi
              by_cases hij : i = j
              · subst hij
                simp [List.getD_eq_getElem?_getD, Array.getD_eq_getD_getElem?, hj, hsz, Array.getElem_modify]
                exact ⟨hK, hX⟩
              · have := hER i hi
                simpa [List.getD_eq_getElem?_getD, Array.getD_eq_getD_getElem?, List.getElem?_set_ne (Ne.symm hij), Array.getElem?_modify, Ne.symm hij] using this
            · have hold : ents[j]? = some (ents.toList.getD j default) := by
                have : j < ents.size := by omega
                simp [this]
              have hkeep : (Instr.keyThatStays (ents.toList.getD j default).key (evalT tmps k')).run P w = .ok (evalT tmps k') w := by
                unfold Instr.keyThatStays; rw [if_pos hsb]; rfl
              simp only [Nat.zero_add] at hfk
              simp only [Instr.mapUpdate, Sem.run_bind, run_underlying hu, Result.andThen_ok, hE, hget, hkey, hfk, hold, Option.map_some, Option.getD_some, hkeep, hset']
        · cases hs
      · cases hs
  · cases hs
end
end Av
end

section
/- Calls in a memory of their own: what comes back stays as it is. -/
namespace Av
open Go

theorem cleans_get : ∀ {cs : List AV}, cleans cs = true → ∀ i, i < cs.length → (cs.getD i .junk).clean = true
  | [], _, i, h => by simp at h
  | c :: cs, h, i, hi => by
    simp [cleans] at h
    cases i with
    | zero => simpa using h.1
    | succ i => simpa using cleans_get h.2 i (by simpa using hi)
theorem cleans_mem : ∀ {cs : List AV}, cleans cs = true → ∀ c ∈ cs, c.clean = true
  | [], _, c, h => by simp at h
  | x :: xs, h, c, hc => by
    simp [cleans] at h
    rcases List.mem_cons.1 hc with rfl | hc
    · exact h.1
    · exact cleans_mem h.2 c hc

/-- a clean value's cell is clean -/
theorem clean_cell {a : AV} (h : a.clean = true) (j : Nat) : j < a.cells.length → (a.cells.getD j .junk).clean = true := by
  intro hj
  cases a with
  | agg cs => simp [AV.clean] at h; exact cleans_get h j hj
  | _ =>
    simp [AV.cells] at hj ⊢
    subst hj
    simpa using h

theorem VR.clean {S S' : Gh} (hG : ∀ c o v, S.G c o = some v → S'.G c o = some v) (hM : ∀ c m, S.M c = some m → S'.M c = some m) {x v} (h : VR S x v) (hx : x.clean = true) : VR S' x v := by
  induction h with
  | bool b => exact .bool b
  | int k n => exact .int k n
  | nilp => exact .nilp
  | ptr b off c hh => cases hx
  | cptr cs c o us hg _ ih =>
    simp [AV.clean] at hx
    exact .cptr cs c o us (fun i hi => hG _ _ _ (hg i hi)) fun i hi => ih i hi (cleans_get hx i hi)
  | sl es k c o len cap sz us hl hz hg _ hk ih =>
    simp [AV.clean] at hx
    refine .sl es k c o len cap sz us hl hz (fun i hi => hG _ _ _ (hg i hi)) (fun i j hi hj => ih i j hi hj ?_) ?_
    · have hi' : i < es.length := by omega
      refine clean_cell (cleans_get hx.2 i hi') j ?_
      rw [hz _ (by rw [List.getD_eq_getElem?_getD, List.getElem?_eq_getElem hi']; exact List.getElem_mem hi')]; exact hj
    · cases k with
      | exact => exact hk
      | opn t => simp at hx
      | shut => exact hk
  | slnil k hk => exact .slnil k hk
  | msl b off len sz c cap hh hc ha => cases hx
  | mp b c hh => cases hx
  | mv ks vs c ents hh h1 h2 _ _ ih1 ih2 =>
    simp [AV.clean] at hx
    exact .mv ks vs c ents (hM _ _ hh) h1 h2 (fun i hi => ih1 i hi (cleans_get hx.1 i hi)) fun i hi => ih2 i hi (cleans_get hx.2 i (by omega))
  | nilm => exact .nilm
  | fn f first cap vs ws h1 h2 _ _ ih1 ih2 =>
    simp [AV.clean] at hx
    exact .fn f first cap vs ws h1 h2 (fun i hi => ih1 i hi (cleans_get hx.1 i hi)) fun i hi => ih2 i hi (cleans_get hx.2 i hi)
  | nilf => exact .nilf
  | yld l c hh => cases hx
  | agg cs vs hl _ ih => simp [AV.clean] at hx; exact .agg cs vs hl fun i hi => ih i hi (cleans_get hx i hi)
  | tup cs vs hl _ ih => simp [AV.clean] at hx; exact .tup cs vs hl fun i hi => ih i hi (cleans_get hx i hi)
  | junk v => cases hx

/-- what a callee in a memory of its own knows -/
def Gh.iso (S : Gh) : Gh := ⟨fun _ => none, S.G, fun _ => none, fun _ => none, S.M⟩
/-- what its caller knows when it has come back: all that is new stays -/
def Gh.back (S S1 : Gh) (n : Nat) (w : World) : Gh := ⟨S.ρ, fun c o => if c < n then S.G c o else w.cell? ⟨c, o, none⟩, S.T, S.A,
  fun c => if c < n then S.M c else match w.heap[c]? with | some (.map ents _) => some ents | _ => none⟩

section
variable {chk : Nat → List Nat → Code → ACode → Bool} {gl : Nat → List AV} {S S1 : Gh} {H H' : Av.H} {w w1 : World}

theorem iso_own {c : Nat} : ¬ own S.iso Av.H.emp c := by
  rintro (⟨b, o, h1, _⟩ | ⟨t, i, h1, _⟩)
  · cases h1
  · cases h1
theorem WR.iso (h : WR chk gl S H w) (hgl : ∀ g, cleans (gl g) = true) : WR chk gl S.iso Av.H.emp w := by
  refine ⟨fun b c hb => (by cases hb), fun b b' c o o' hb => (by cases hb), h.G, fun c o v _ ho => iso_own (.inl ho), h.M, fun c m _ ho => iso_own (.inl ho), fun t ht => (by cases ht), fun t t' i i' ht => (by cases ht), fun b _ => ⟨rfl, rfl, rfl, rfl⟩, fun g i hi => ?_⟩
  obtain ⟨v, h1, h2⟩ := h.glob g i hi
  exact ⟨v, h1, VR.clean (S := S) (S' := S.iso) (fun c o v (q : S.G c o = some v) => q) (fun c m (q : S.M c = some m) => q) h2 (cleans_get (hgl g) i hi)⟩

variable (h : WR chk gl S H w) (h1 : WR chk gl S1 H' w1) (hk : Keep S.iso Av.H.emp w S1 H' w1)
include h h1 hk

omit h in
theorem back_G {c o : Nat} {v : Value} (hv : S1.G c o = some v) : (S.back S1 w.heap.size w1).G c o = some v := by
  simp only [Gh.back]
  split
  · rename_i hc; rw [← hv]; exact (hk.G c o hc iso_own).symm
  · exact h1.G c o v hv
omit h in
theorem back_M {c : Nat} {m : Array MapEntry} (hv : S1.M c = some m) : (S.back S1 w.heap.size w1).M c = some m := by
  simp only [Gh.back]
  split
  · rename_i hc; rw [← hv]; exact (hk.M c hc iso_own).symm
  · obtain ⟨clock, h2⟩ := h1.M c m hv
    rw [h2]
omit h1 in
theorem back_le (h1 : WR chk gl S1 H' w1) : S.le (S.back S1 w.heap.size w1) :=
  ⟨fun _ _ h => h, fun c o v hv => by simp only [Gh.back]; rw [if_pos (h.G_lt hv)]; exact hv, fun _ _ h => h, fun _ _ h => h, fun c m hv => by simp only [Gh.back]; rw [if_pos (h.M_lt hv)]; exact hv⟩

theorem WR.back : WR chk gl (S.back S1 w.heap.size w1) H w1 ∧ Keep S H w (S.back S1 w.heap.size w1) H w1 := by
  have hold : ∀ c, c < w.heap.size → w1.heap[c]? = w.heap[c]? := fun c hc => hk.old c hc iso_own
  have hle := back_le h hk h1
  have howned : ∀ c, owned (S.back S1 w.heap.size w1) H c → owned S H c := fun c ho => ho
  refine ⟨⟨fun b c hb => ?_, h.inj, fun c o v hv => ?_, fun c o v hv ho => ?_, fun c m hm => ?_, fun c m hm ho => ?_, fun t ht => ?_, h.tokinj, h.fresh, fun g i hi => ?_⟩,
    hle, hk.sz, fun c hc _ => hold c hc, fun c hc ho => ho, fun c o hc _ => by simp only [Gh.back]; rw [if_pos hc], fun c hc _ => by simp only [Gh.back]; rw [if_pos hc], hk.sm⟩
  · obtain ⟨q1, o, q2, q3⟩ := h.dom b c hb
    exact ⟨Nat.lt_of_lt_of_le q1 hk.sz, o, q2, q3.mono hle rfl fun _ => hold c q1⟩
  · simp only [Gh.back] at hv
    split at hv
    · rename_i hc
      have := h.G c o v hv
      rw [← this]; simp only [World.cell?, hold c hc]
    · exact hv
  · have hlt := h.own_lt (.inl (howned c ho))
    simp only [Gh.back] at hv
    rw [if_pos hlt] at hv
    exact h.Gown c o v hv (howned c ho)
  · simp only [Gh.back] at hm
    split at hm
    · rename_i hc
      obtain ⟨clock, q⟩ := h.M c m hm
      exact ⟨clock, (hold c hc).trans q⟩
    · split at hm
      · rename_i ents clock hq; cases hm; exact ⟨clock, hq⟩
      · cases hm
  · have hlt := h.own_lt (.inl (howned c ho))
    simp only [Gh.back] at hm
    rw [if_pos hlt] at hm
    exact h.Mown c m hm (howned c ho)
  · obtain ⟨i, arr, e, q1, q2, q3, q4, q5⟩ := h.tok t ht
    have hlt := (Array.getElem?_eq_some_iff.1 q2).1
    refine ⟨i, arr, e, q1, (hold _ hlt).trans q2, q3, fun o v hv => ?_, fun ho => q5 (howned _ ho)⟩
    simp only [Gh.back] at hv
    rw [if_pos hlt] at hv
    exact q4 o v hv
  · obtain ⟨v, q1, q2⟩ := h.glob g i hi
    exact ⟨v, hle.G _ _ _ q1, q2.mono hle⟩

omit h in
theorem VR.backc {x u} (hv : VR S1 x u) (hx : x.clean = true) : VR (S.back S1 w.heap.size w1) x u :=
  hv.clean (fun _ _ _ q => back_G h1 hk q) (fun _ _ q => back_M h1 hk q) hx

omit h in
/-- what an object of the callee's lies in is new -/
theorem new_block {b c : Nat} {o : AObj} (hb : S1.ρ b = some c) (hg : H'.get b = some o) (ho : o.own = true) : ¬ c < w.heap.size := fun hc =>
  iso_own (hk.own c hc (.inl ⟨b, o, hb, hg, ho⟩))
end

/-! what is frozen -/
theorem chunk_length {sz : Nat} : ∀ (n : Nat) (cs : List AV), (chunk sz n cs).length = n
  | 0, _ => rfl
  | n + 1, cs => by simp [chunk, chunk_length n]
theorem chunk_cells {sz : Nat} : ∀ (n : Nat) (cs : List AV), n * sz ≤ cs.length → (∀ c ∈ cs, c.flat = true) → ∀ e ∈ chunk sz n cs, e.cells.length = sz
  | 0, _, _, _, e, he => by simp [chunk] at he
  | n + 1, cs, hl, hf, e, he => by
    rw [Nat.add_mul] at hl
    simp only [chunk, List.mem_cons] at he
    rcases he with rfl | he
    · by_cases h1 : sz = 1
      · rw [if_pos h1]
        cases cs with
        | nil => simp at hl; omega
        | cons c cs =>
          have := hf c (by simp)
          cases c <;> first | (simp [AV.cells, h1]; done) | (cases this; done)
      · rw [if_neg h1]; simp [AV.cells]; omega
    · exact chunk_cells n (cs.drop sz) (by simp; omega) (fun c hc => hf c (List.mem_of_mem_drop hc)) e he
theorem chunk_flat {sz : Nat} : ∀ (n : Nat) (cs : List AV), n * sz ≤ cs.length → (∀ c ∈ cs, c.flat = true) → ∀ i j, i < n → j < sz →
    ((chunk sz n cs).getD i .junk).cells.getD j .junk = cs.getD (i * sz + j) .junk
  | 0, _, _, _, i, j, hi, _ => by omega
  | n + 1, cs, hl, hf, i, j, hi, hj => by
    rw [Nat.add_mul] at hl
    cases i with
    | zero =>
      simp only [chunk, List.getD_cons_zero, Nat.zero_mul, Nat.zero_add]
      by_cases h1 : sz = 1
      · rw [if_pos h1]
        cases cs with
        | nil => simp at hl; omega
        | cons c cs =>
          have hj0 : j = 0 := by omega
          subst hj0
          have := hf c (by simp)
          cases c <;> first | rfl | (cases this; done)
      · rw [if_neg h1]
        simp only [AV.cells]
        rw [List.getD_eq_getElem?_getD, List.getElem?_take, if_pos hj, ← List.getD_eq_getElem?_getD]
    | succ i =>
      simp only [chunk, List.getD_cons_succ]
      rw [chunk_flat n (cs.drop sz) (by simp; omega) (fun c hc => hf c (List.mem_of_mem_drop hc)) i j (by omega) hj]
      simp only [List.getD_eq_getElem?_getD, List.getElem?_drop]
      congr 2; rw [Nat.add_mul]; omega

section
variable {chk : Nat → List Nat → Code → ACode → Bool} {gl : Nat → List AV} {S S1 : Gh} {H H' : Av.H} {w w1 : World}
variable (h1 : WR chk gl S1 H' w1) (hk : Keep S.iso Av.H.emp w S1 H' w1)
include h1 hk

theorem frz1_ok {x u} (hv : VR S1 x u) (hx : (frz1 H' x).clean = true) : VR (S.back S1 w.heap.size w1) (frz1 H' x) u := by
  unfold frz1 at hx ⊢
  split at hx
  · rename_i b off len sz
    obtain ⟨c, cap, rfl, hρ, hcap, _⟩ := hv.msl_inv
    obtain ⟨_, ao, hg, hOR⟩ := h1.dom b c hρ
    have key : ∀ (cs : List AV), (∀ i, i < cs.length → ∃ v, (S.back S1 w.heap.size w1).G c i = some v ∧ VR S1 (cs.getD i .junk) v) → (if off + len * sz ≤ cs.length ∧ cs.all AV.flat = true then AV.sl (chunk sz len (cs.drop off)) .shut else .junk).clean = true →
        VR (S.back S1 w.heap.size w1) (if off + len * sz ≤ cs.length ∧ cs.all AV.flat = true then AV.sl (chunk sz len (cs.drop off)) .shut else .junk) (.slice (some ⟨c, off, none⟩) len cap) := by
      intro cs hcs hcl
      split at hcl
      · rename_i hcond
        rw [if_pos hcond]
        simp [AV.clean] at hcl
        have hfl : ∀ x ∈ cs.drop off, x.flat = true := fun x hx => List.all_eq_true.1 hcond.2 x (List.mem_of_mem_drop hx)
        have hlen : len * sz ≤ (cs.drop off).length := by simp; omega
        refine .sl _ .shut c off len cap sz (fun i => ((S.back S1 w.heap.size w1).G c (off + i)).getD undef) (chunk_length len _) (chunk_cells len _ hlen hfl) (fun i hi => ?_) (fun i j hi hj => ?_) hcap
        · obtain ⟨v, hv1, _⟩ := hcs (off + i) (by omega)
          rw [hv1]; rfl
        · have hij : i * sz + j < len * sz := by
            have : (i + 1) * sz ≤ len * sz := Nat.mul_le_mul_right _ hi
            rw [Nat.add_mul] at this; omega
          have hcell : (((chunk sz len (cs.drop off)).getD i .junk).cells.getD j .junk).clean = true := by
            have hi' : i < (chunk sz len (cs.drop off)).length := by rw [chunk_length]; exact hi
            refine clean_cell (cleans_get hcl i hi') j ?_
            rw [chunk_cells len _ hlen hfl _ (by rw [List.getD_eq_getElem?_getD, List.getElem?_eq_getElem hi']; exact List.getElem_mem hi')]; exact hj
          rw [chunk_flat len _ hlen hfl i j hi hj] at hcell ⊢
          obtain ⟨v, hv1, hv2⟩ := hcs (off + (i * sz + j)) (by omega)
          rw [hv1]
          have e1 : (cs.drop off).getD (i * sz + j) .junk = cs.getD (off + (i * sz + j)) .junk := by simp [List.getD_eq_getElem?_getD]
          rw [e1] at hcell ⊢
          exact VR.backc h1 hk hv2 hcell
      · cases hcl
    split at hx
    · rename_i cs hb
      rw [hb] at hg; cases hg
      obtain ⟨arr, el, q1, q2, q3, q4⟩ := hOR
      refine key cs (fun i hi => ⟨arr.getD i undef, ?_, q4 i hi⟩) hx
      simp only [Gh.back]
      rw [if_neg (new_block h1 hk hρ hb rfl), cell_of_row w1 c i arr el _ q1]
      simp [show i < arr.size by omega]
    · rename_i cs hb
      rw [hb] at hg; cases hg
      refine key cs (fun i hi => ?_) hx
      obtain ⟨v, q1, q2⟩ := hOR i hi
      exact ⟨v, back_G h1 hk q1, q2⟩
    · cases hx
  · rename_i b
    obtain ⟨c, hρ, rfl⟩ : ∃ c, S1.ρ b = some c ∧ u = .map (some c) := by cases hv with | mp _ c hh => exact ⟨c, hh, rfl⟩
    obtain ⟨_, ao, hg, hOR⟩ := h1.dom b c hρ
    have key : ∀ (es : List (AV × AV)) (ents : Array MapEntry), (S.back S1 w.heap.size w1).M c = some ents → ER S1 es ents → (AV.mv (es.map (·.1)) (es.map fun q => q.2.shut1)).clean = true → VR (S.back S1 w.heap.size w1) (.mv (es.map (·.1)) (es.map fun q => q.2.shut1)) (.map (some c)) := by
      intro es ents hM hER hcl
      simp [AV.clean] at hcl
      refine .mv _ _ c ents hM (by simpa using hER.1) (by simp) (fun i hi => ?_) (fun i hi => ?_)
      · simp at hi
        have h3 := (hER.2 i hi).1
        have h4 := cleans_get hcl.1 i (by simpa using hi)
        have e1 : (es.map (·.1)).getD i .junk = (es.getD i (.junk, .junk)).1 := by simp [List.getD_eq_getElem?_getD, hi]
        rw [e1] at h4 ⊢
        exact VR.backc h1 hk h3 h4
      · simp at hi
        have h3 := (hER.2 i hi).2
        have h4 := cleans_get hcl.2 i (by simpa using hi)
        have e1 : (es.map fun q => q.2.shut1).getD i .junk = (es.getD i (.junk, .junk)).2.shut1 := by simp [List.getD_eq_getElem?_getD, hi]
        rw [e1] at h4 ⊢
        exact VR.backc h1 hk h3.shut1 h4
    split at hx
    · rename_i es hb
      rw [hb] at hg; cases hg
      obtain ⟨ents, clock, q1, q2, _⟩ := hOR
      refine key es ents ?_ q2 hx
      simp only [Gh.back]
      rw [if_neg (new_block h1 hk hρ hb rfl), q1]
    · rename_i es hb
      rw [hb] at hg; cases hg
      obtain ⟨ents, q1, q2⟩ := hOR
      exact key es ents (back_M h1 hk q1) q2 hx
    · cases hx
  · exact VR.backc h1 hk hv.shut1 hx

omit h1 hk in
theorem frzs_eq (H : Av.H) : ∀ vs, frzs H vs = vs.map (frz1 H)
  | [] => rfl
  | v :: vs => by rw [frzs, frzs_eq H vs]; rfl
omit h1 hk in
theorem VRs.mapc {S S' : Gh} {f : AV → AV} {xs : List AV} {vs : List Value} (h : VRs S xs vs) (hf : ∀ x u, x ∈ xs → VR S x u → VR S' (f x) u) : VRs S' (xs.map f) vs := by
  refine .of (by simpa using h.1) fun i x v hx hv => ?_
  rw [List.getElem?_map] at hx
  obtain ⟨y, hy, rfl⟩ := Option.map_eq_some_iff.1 hx
  obtain ⟨u, hu, hr⟩ := h.get hy
  rw [hu] at hv; cases hv
  exact hf _ _ (List.mem_of_getElem? hy) hr

theorem frz2_ok {x u} (hv : VR S1 x u) (hx : (frz2 H' x).clean = true) : VR (S.back S1 w.heap.size w1) (frz2 H' x) u := by
  unfold frz2 at hx ⊢
  split at hx
  · rename_i cs
    obtain ⟨us, rfl, hV⟩ := hv.agg_inv
    rw [frzs_eq] at hx ⊢
    simp [AV.clean] at hx
    have := VR.agg' (hV.mapc (S' := S.back S1 w.heap.size w1) (f := frz1 H') fun y u hy hr => frz1_ok h1 hk hr (cleans_mem hx _ (List.mem_map.2 ⟨y, hy, rfl⟩)))
    simpa using this
  · exact frz1_ok h1 hk hv hx
omit h1 hk in
theorem frz2s_eq (H : Av.H) : ∀ vs, frz2s H vs = vs.map (frz2 H)
  | [] => rfl
  | v :: vs => by rw [frz2s, frz2s_eq H vs]; rfl
theorem frz3_ok {x u} (hv : VR S1 x u) (hx : (frz3 H' x).clean = true) : VR (S.back S1 w.heap.size w1) (frz3 H' x) u := by
  unfold frz3 at hx ⊢
  split at hx
  · rename_i cs
    obtain ⟨us, rfl, hV⟩ := hv.tup_inv
    rw [frz2s_eq] at hx ⊢
    simp [AV.clean] at hx
    have := VR.tup' (hV.mapc (S' := S.back S1 w.heap.size w1) (f := frz2 H') fun y u hy hr => frz2_ok h1 hk hr (cleans_mem hx _ (List.mem_map.2 ⟨y, hy, rfl⟩)))
    simpa using this
  · exact frz2_ok h1 hk hv hx
end
end Av
end

section
/- Slices of memory that grow, are copied, and come to stay. -/
namespace Av
open Go

theorem put_put (h : H) (b : Nat) (o o' : AObj) : (h.put b o).put b o' = h.put b o' := by
  simp only [H.put, H.mk.injEq, true_and]
  funext j
  split <;> rfl

section
variable {chk : Nat → List Nat → Code → ACode → Bool} {gl : Nat → List AV} {S : Gh} {H : H} {w : World}

/-- an object that nobody owns becomes another such one -/
theorem WR.swap (h : WR chk gl S H w) {b : Nat} {o o' : AObj} (hg : H.get b = some o) (ho' : o'.own = false) (ht' : o' ≠ .tok)
    (hOR : ∀ c, S.ρ b = some c → OR chk S w b c o') : WR chk gl S (H.put b o') w := by
  have hget : ∀ k, k ≠ b → (H.put b o').get k = H.get k := fun k hk => by simp [Av.H.put, hk]
  have hgetb : (H.put b o').get b = some o' := by simp [Av.H.put]
  have howned : ∀ c', owned S (H.put b o') c' → owned S H c' := by
    rintro c' ⟨k, o2, h1, h2, h3⟩
    by_cases hk : k = b
    · subst hk; rw [hgetb] at h2; cases h2; rw [ho'] at h3; cases h3
    · rw [hget k hk] at h2; exact ⟨k, o2, h1, h2, h3⟩
  have htok : ∀ t', (H.put b o').get t' = some .tok → H.get t' = some .tok := by
    intro t' ht2
    by_cases hk : t' = b
    · subst hk; rw [hgetb] at ht2; cases ht2; exact absurd rfl ht'
    · rw [hget t' hk] at ht2; exact ht2
  refine ⟨fun k c' hk => ?_, fun k k' c' o1 o2 h1 h2 h3 h4 h5 h6 => ?_, h.G, fun c' o2 v hv hh => h.Gown c' o2 v hv (howned c' hh), h.M, fun c' m hm hh => h.Mown c' m hm (howned c' hh), fun t' ht2 => ?_, fun t t' i i' h1 h2 h3 h4 h5 => h.tokinj t t' i i' (htok t h1) (htok t' h2) h3 h4 h5, fun k hk => ?_, h.glob⟩
  · obtain ⟨h1, o2, h2, h3⟩ := h.dom k c' hk
    by_cases hkb : k = b
    · subst hkb; exact ⟨h1, o', hgetb, hOR _ hk⟩
    · exact ⟨h1, o2, by rw [hget k hkb]; exact h2, h3⟩
  · have hkb : k ≠ b := by rintro rfl; rw [hgetb] at h3; cases h3; rw [ho'] at h4; cases h4
    have hkb' : k' ≠ b := by rintro rfl; rw [hgetb] at h5; cases h5; rw [ho'] at h6; cases h6
    rw [hget k hkb] at h3; rw [hget k' hkb'] at h5
    exact h.inj k k' c' o1 o2 h1 h2 h3 h4 h5 h6
  · obtain ⟨i, arr, e, h1, h2, h3, h4, h5⟩ := h.tok t' (htok t' ht2)
    exact ⟨i, arr, e, h1, h2, h3, h4, fun hh => h5 (howned _ hh)⟩
  · have hkb : k ≠ b := by
      rintro rfl
      have := (h.fresh k hk).2.2.2; rw [hg] at this; cases this
    obtain ⟨g1, g2, g3, g4⟩ := h.fresh k hk
    exact ⟨g1, g2, g3, by rw [hget k hkb]; exact g4⟩

/-- a block whose object is gone is nobody's -/
theorem WR.gone (h : WR chk gl S H w) {b c : Nat} {o : AObj} (hb : S.ρ b = some c) (hg : H.get b = some o) (ho : o.own = true) : ¬ own S (H.put b .dead) c := by
  rintro (⟨k, o2, h1, h2, h3⟩ | ⟨t, i, h1, h2, h3⟩)
  · by_cases hk : k = b
    · subst hk; simp [Av.H.put] at h2; subst h2; cases h3
    · simp [Av.H.put, hk] at h2
      exact hk (h.inj k b c o2 o h1 hb h2 h3 hg ho)
  · by_cases hk : t = b
    · subst hk; simp [Av.H.put] at h1
    · simp [Av.H.put, hk] at h1
      obtain ⟨i', arr, e, q1, q2, q3, q4, q5⟩ := h.tok t h1
      rw [h2] at q1; cases q1
      exact q5 (h3 ▸ ⟨b, o, hb, hg, ho⟩)

/-- a new object in a block that is nobody's -/
theorem WR.newAt (h : WR chk gl S H w) {c : Nat} {o : AObj} {a : Option Nat} (hno : ¬ own S H c) (hlt : c < w.heap.size) (hG : ∀ i, S.G c i = none) (hM : S.M c = none) (ht : o ≠ .tok) (hOR : OR chk (S.bind H.n c a) w H.n c o) :
    WR chk gl (S.bind H.n c a) (H.new o) w := by
  obtain ⟨f1, f2, f3, f4⟩ := h.fresh H.n (Nat.le_refl _)
  have hS : S.le (S.bind H.n c a) := Gh.le_bind f1 f3
  have hget : ∀ b, b ≠ H.n → (H.new o).get b = H.get b := fun b hb => by simp [Av.H.new, hb]
  have hgetn : (H.new o).get H.n = some o := by simp [Av.H.new]
  have hρ : ∀ b c', (S.bind H.n c a).ρ b = some c' → (b = H.n ∧ c' = c) ∨ (b ≠ H.n ∧ S.ρ b = some c') := by
    intro b c' hb
    simp only [Gh.bind] at hb
    split at hb
    · rename_i hh; cases hb; exact .inl ⟨hh, rfl⟩
    · rename_i hh; exact .inr ⟨hh, hb⟩
  have howned : ∀ c', owned (S.bind H.n c a) (H.new o) c' → c' = c ∨ owned S H c' := by
    rintro c' ⟨b, o', h1, h2, h3⟩
    rcases hρ b c' h1 with ⟨_, rfl⟩ | ⟨hb, h4⟩
    · exact .inl rfl
    · rw [hget b hb] at h2; exact .inr ⟨b, o', h4, h2, h3⟩
  have htok : ∀ t, (H.new o).get t = some .tok → H.get t = some .tok := by
    intro t ht'
    by_cases hb : t = H.n
    · subst hb; rw [hgetn] at ht'; cases ht'; exact absurd rfl ht
    · rw [hget t hb] at ht'; exact ht'
  refine ⟨fun b c' hb => ?_, fun b b' c' o1 o2 h1 h2 h3 h4 h5 h6 => ?_, h.G, fun c' o' v hv ho => ?_, h.M, fun c' m hm ho => ?_, fun t ht' => ?_, fun t t' i i' h1 h2 h3 h4 h5 => h.tokinj t t' i i' (htok t h1) (htok t' h2) h3 h4 h5, fun b hb => ?_, fun g i hi => ?_⟩
  · rcases hρ b c' hb with ⟨rfl, rfl⟩ | ⟨hbn, h1⟩
    · exact ⟨hlt, o, hgetn, hOR⟩
    · obtain ⟨h2, o', h3, h4⟩ := h.dom b c' h1
      exact ⟨h2, o', by rw [hget b hbn]; exact h3, h4.mono hS (by simp [Gh.bind, hbn]) fun _ => rfl⟩
  · rcases hρ b c' h1 with ⟨rfl, rfl⟩ | ⟨hbn, h1'⟩ <;> rcases hρ b' _ h2 with ⟨rfl, h2'⟩ | ⟨hbn', h2'⟩
    · rfl
    · rw [hget b' hbn'] at h5
      exact absurd (.inl ⟨b', o2, h2', h5, h6⟩) hno
    · subst h2'
      rw [hget b hbn] at h3
      exact absurd (.inl ⟨b, o1, h1', h3, h4⟩) hno
    · rw [hget b hbn] at h3; rw [hget b' hbn'] at h5
      exact h.inj b b' c' o1 o2 h1' h2' h3 h4 h5 h6
  · rcases howned c' ho with rfl | ho
    · have hv' : S.G c' o' = some v := hv
      rw [hG] at hv'; cases hv'
    · exact h.Gown c' o' v hv ho
  · rcases howned c' ho with rfl | ho
    · have hm' : S.M c' = some m := hm
      rw [hM] at hm'; cases hm'
    · exact h.Mown c' m hm ho
  · obtain ⟨i, arr, e, h1, h2, h3, h4, h5⟩ := h.tok t (htok t ht')
    refine ⟨i, arr, e, h1, h2, h3, h4, fun ho => ?_⟩
    rcases howned _ ho with hh | ho
    · exact hno (.inr ⟨t, i, htok t ht', h1, hh⟩)
    · exact h5 ho
  · have hb' : H.n ≤ b := Nat.le_trans (Nat.le_succ _) hb
    have hne : b ≠ H.n := by intro hh; subst hh; exact absurd hb (Nat.not_succ_le_self _)
    obtain ⟨g1, g2, g3, g4⟩ := h.fresh b hb'
    exact ⟨by simp [Gh.bind, hne, g1], g2, by simp [Gh.bind, hne, g3], by rw [hget b hne]; exact g4⟩
  · obtain ⟨v, h1, h2⟩ := h.glob g i hi
    exact ⟨v, h1, h2.mono hS⟩

theorem fzvs_eq (H : Av.H) : ∀ vs, fzvs H vs = vs.map (fzv H)
  | [] => rfl
  | v :: vs => by rw [fzvs, fzvs_eq H vs]; rfl

theorem fzv_ok (h : WR chk gl S H w) {v : AV} {u : Value} (hv : VR S v u) : VR S (fzv H v) u := by
  unfold fzv
  split
  · rename_i b off len sz
    obtain ⟨c, cap, rfl, hρ, hcap, _⟩ := hv.msl_inv
    obtain ⟨_, ao, hg, hOR⟩ := h.dom b c hρ
    split
    · rename_i cs hb
      rw [hb] at hg; cases hg
      split
      · rename_i hcond
        have hfl : ∀ x ∈ cs.drop off, x.flat = true := fun x hx => List.all_eq_true.1 hcond.2 x (List.mem_of_mem_drop hx)
        have hlen : len * sz ≤ (cs.drop off).length := by simp; omega
        refine .sl _ .shut c off len cap sz (fun i => (S.G c (off + i)).getD undef) (chunk_length len _) (chunk_cells len _ hlen hfl) (fun i hi => ?_) (fun i j hi hj => ?_) hcap
        · obtain ⟨v, hv1, _⟩ := hOR (off + i) (by omega)
          rw [hv1]; rfl
        · have hij : i * sz + j < len * sz := by
            have : (i + 1) * sz ≤ len * sz := Nat.mul_le_mul_right _ hi
            rw [Nat.add_mul] at this; omega
          rw [chunk_flat len _ hlen hfl i j hi hj]
          obtain ⟨v, hv1, hv2⟩ := hOR (off + (i * sz + j)) (by omega)
          rw [hv1]
          have e1 : (cs.drop off).getD (i * sz + j) .junk = cs.getD (off + (i * sz + j)) .junk := by simp [List.getD_eq_getElem?_getD]
          rw [e1]
          exact hv2
      · exact .junk _
    · exact .junk _
  · exact hv

theorem fzids_mem : ∀ {cs : List AV} {b : Nat}, b ∈ fzids cs → ∃ off len sz, AV.msl b off len sz ∈ cs
  | [], b, h => by simp [fzids] at h
  | v :: vs, b, h => by
    simp only [fzids, List.mem_append] at h
    rcases h with h | h
    · unfold fzid at h
      split at h
      · rename_i b' off len sz
        simp at h; subst h
        exact ⟨off, len, sz, by simp⟩
      · simp at h
    · obtain ⟨off, len, sz, hm⟩ := fzids_mem h
      exact ⟨off, len, sz, by simp [hm]⟩
end

section
variable {P : Program} {chk : Nat → List Nat → Code → ACode → Bool} {gl : Nat → List AV} {p : AProg} {N : Nat} {B D : List Nat} {S0 : Gh} {H0 : H} {w0 : World} {S : Gh} {H : H} {Pv : Nat → Option Nat} {e : Env} {tmps : Array Value} {w : World} {o : Oper} {v : AV}

theorem FS.frzB (h : FS chk gl N B D S0 H0 w0 S H Pv e tmps w) {b c : Nat} {cs : List AV} (hb : S.ρ b = some c) (hg : H.get b = some (.cells cs)) :
    ∃ S', FS chk gl N B D S0 H0 w0 S' (H.put b (.frz cs)) Pv e tmps w ∧ S.le S' := by
  obtain ⟨hlt, ao, hg', hOR⟩ := h.wr.dom b c hb
  rw [hg] at hg'; cases hg'
  obtain ⟨arr, el, q1, q2, q3, q4⟩ := hOR
  have hown : owned S H c := ⟨b, _, hb, hg, rfl⟩
  have hGn : ∀ o, S.G c o = none := fun o => by
    cases hv : S.G c o with
    | none => rfl
    | some v => exact absurd hown (h.wr.Gown c o v hv)
  have hno := h.wr.gone hb hg rfl
  have hle : S.le (S.addG c (arr[·]?)) := Gh.le_addG fun o v hv => by rw [hGn] at hv; cases hv
  have w1 : WR chk gl S (H.put b .dead) w := h.wr.put hb hg rfl (by simp) rfl (fun _ _ => rfl) trivial
  have w2 := w1.addG (c := c) (f := (arr[·]?)) (fun o v hv => by rw [hGn] at hv; cases hv) (fun o v hv => by rw [cell_of_row w c o arr el _ q1]; exact hv) hno
  have w3 := w2.swap (b := b) (o := .dead) (o' := .frz cs) (by simp [Av.H.put]) rfl (by simp) fun c' hc' i hi => by
    have hc2 : S.ρ b = some c' := hc'
    rw [hb] at hc2; cases hc2
    have hia : i < arr.size := by omega
    refine ⟨arr[i], by simp [Gh.addG, hia], ?_⟩
    have := (q4 i hi).mono hle
    rw [Array.getD_eq_getD_getElem?, Array.getElem?_eq_getElem hia] at this
    exact this
  rw [put_put] at w3
  have hk : Keep S H w (S.addG c (arr[·]?)) (H.put b (.frz cs)) w := by
    refine ⟨hle, Nat.le_refl _, fun _ _ _ => rfl, fun c' hc' ho => ?_, fun c' o' hc' hno' => ?_, fun _ _ _ => rfl, .refl _⟩
    · rcases ho with ⟨k, o', g1, g2, g3⟩ | ⟨t', j', g1, g2, g3⟩
      · by_cases hkb : k = b
        · subst hkb; simp [Av.H.put] at g2; subst g2; cases g3
        · simp [Av.H.put, hkb] at g2; exact .inl ⟨k, o', g1, g2, g3⟩
      · by_cases hkb : t' = b
        · subst hkb; simp [Av.H.put] at g1
        · simp [Av.H.put, hkb] at g1; exact .inr ⟨t', j', g1, g2, g3⟩
    · have : c' ≠ c := fun hcc => hno' (hcc ▸ .inl hown)
      simp [Gh.addG, this]
  exact ⟨_, ⟨w3, h.fr.keep h.pv hk, h.pv.keep hk, h.kp.trans hk, h.nw, h.nd⟩, hle⟩

theorem fzH_ok : ∀ (bs : List Nat) {S : Gh} {H : Av.H}, (∀ b ∈ bs, ∃ c, S.ρ b = some c) → FS chk gl N B D S0 H0 w0 S H Pv e tmps w → ∃ S', FS chk gl N B D S0 H0 w0 S' (fzH H bs) Pv e tmps w ∧ S.le S'
  | [], S, H, _, h => ⟨S, h, .refl _⟩
  | b :: bs, S, H, hb, h => by
    unfold fzH
    split
    · rename_i cs hg
      obtain ⟨c, hc⟩ := hb b (by simp)
      obtain ⟨S1, h1, l1⟩ := h.frzB hc hg
      obtain ⟨S2, h2, l2⟩ := fzH_ok bs (fun b' hb' => by obtain ⟨c', hc'⟩ := hb b' (by simp [hb']); exact ⟨c', l1.ρ _ _ hc'⟩) h1
      exact ⟨S2, h2, l1.trans l2⟩
    · exact fzH_ok bs (fun b' hb' => hb b' (by simp [hb'])) h

/-- slices of memory in a box come to stay -/
theorem frzm_ok (h : FS chk gl N B D S0 H0 w0 S H Pv e tmps w) {s g : Nat} {cs : List AV} (hs : s < N) (he : e s = .lbox g cs) :
    ∃ S', FS chk gl N B D S0 H0 w0 S' (fzH H (fzids cs)) Pv (e.set s (.lbox g (fzvs (fzH H (fzids cs)) cs))) tmps w := by
  obtain ⟨c, arr, t, h1, h2, h3, h4⟩ := h.fr.lb s g cs hs he
  obtain ⟨S1, f1, l1⟩ := fzH_ok (fzids cs) (fun b hb => by
    obtain ⟨off, len, sz, hm⟩ := fzids_mem hb
    obtain ⟨i, hi⟩ := List.mem_iff_getElem?.1 hm
    obtain ⟨u, _, hV⟩ := h4.get hi
    obtain ⟨c', _, _, hρ, _⟩ := hV.msl_inv
    exact ⟨c', hρ⟩) h
  refine ⟨S1, f1.wr, ?_, f1.pv, f1.kp, f1.nw, f1.nd⟩
  refine f1.fr.stBox (arr' := arr) (t := t) he h1 f1.pv.inj h3 ?_ fun _ _ => rfl
  rw [fzvs_eq]
  exact (h4.mono l1).mapc fun y u _ hr => fzv_ok f1.wr hr

theorem unl_lptr {s s' g o : Nat} {v : AV} (h : unl s v = .lptr s' g o) : v = .lptr s' g o ∧ s' ≠ s := by
  cases v with
  | lptr s1 g1 o1 =>
    simp only [unl] at h
    by_cases hh : s1 = s
    · rw [if_pos hh] at h; cases h
    · rw [if_neg hh] at h; cases h; exact ⟨rfl, hh⟩
  | _ => simp only [unl] at h; cases h
/-- a box becomes memory -/
theorem shr_ok (h : FS chk gl N B D S0 H0 w0 S H Pv e tmps w) {s g : Nat} {cs : List AV} (hs : s < N) (hB : s ∈ B) (he : e s = .lbox g cs) :
    ∃ S' Pv', FS chk gl N B D S0 H0 w0 S' (H.new (.cells cs)) Pv' (e.shr s H.n) tmps w := by
  obtain ⟨c, arr, t, h1, h2, h3, h4⟩ := h.fr.lb s g cs hs he
  obtain ⟨f1, f2, f3, f4⟩ := h.wr.fresh H.n (Nat.le_refl _)
  have hS : S.le (S.bind H.n c (some arr.size)) := Gh.le_bind f1 f3
  have hlt := h.pv.lt s c h1
  have hno := h.pv.own s c h1
  have hW : WR chk gl (S.bind H.n c (some arr.size)) (H.new (.cells cs)) w := by
    refine h.wr.newAt hno hlt (fun i => h.pv.G s c i h1) (h.pv.M s c h1) (by simp) ⟨arr, t, h3, ?_, ?_, ?_⟩
    · have := h4.1; simp at this; omega
    · intro a ha; simp [Gh.bind] at ha; exact ha.symm
    · intro i hi
      have := (h4.2 i hi).mono hS
      simpa [List.getD_eq_getElem?_getD, Array.getD_eq_getD_getElem?] using this
  have hown : ∀ c', Av.own (S.bind H.n c (some arr.size)) (H.new (.cells cs)) c' → c' = c ∨ Av.own S H c' := by
    intro c' ho
    rcases ho with ⟨b, o', q1, q2, q3⟩ | ⟨t', i, q1, q2, q3⟩
    · by_cases hb : b = H.n
      · subst hb; simp [Gh.bind] at q1; exact .inl q1.symm
      · simp [Gh.bind, hb] at q1; simp [Av.H.new, hb] at q2
        exact .inr (.inl ⟨b, o', q1, q2, q3⟩)
    · by_cases hb : t' = H.n
      · subst hb; simp [Av.H.new] at q1
      · simp [Av.H.new, hb] at q1
        exact .inr (.inr ⟨t', i, q1, q2, q3⟩)
  have hif : ∀ k c', (if k = s then none else Pv k) = some c' → k ≠ s ∧ Pv k = some c' := by
    intro k c' hk
    split at hk
    · cases hk
    · rename_i hh; exact ⟨hh, hk⟩
  have hok : ∀ k, (unl s (e k)).okv = true → (e k).okv = true ∨ ∃ x y, e k = .lptr s x y := by
    intro k hk
    cases hq : e k with
    | lptr s' g' o =>
      rw [hq] at hk; simp only [unl] at hk
      split at hk
      · rename_i hh; subst hh; exact .inr ⟨_, _, rfl⟩
      · cases hk
    | _ => rw [hq] at hk; exact .inl hk
  have hptr : VR (S.bind H.n c (some arr.size)) (.ptr H.n 0) (tmps.getD s undef) := by
    rw [h2]; exact .ptr _ _ _ (by simp [Gh.bind])
  refine ⟨S.bind H.n c (some arr.size), fun k => if k = s then none else Pv k, hW, ⟨h.fr.size, fun k hk hkok => ?_, fun k g1 cs1 hk he1 => ?_, fun k g1 cs1 hk he1 => ?_, fun k s' g1 off hk he1 => ?_, fun k hk => ?_⟩,
    ⟨fun k c' hk => h.pv.lt k c' (hif k c' hk).2, fun k c' hk ho => ?_, fun k c' o hk => h.pv.G k c' o (hif k c' hk).2, fun k k' c' hk hk' => h.pv.inj k k' c' (hif k c' hk).2 (hif k' c' hk').2, fun k c' hk => h.pv.M k c' (hif k c' hk).2, fun d hd => ⟨(h.pv.df d hd).1, fun ho => ?_⟩, h.pv.nd, fun k c' hk => h.pv.PD k c' (hif k c' hk).2⟩, ?_, fun k c' hk => h.nw k c' (hif k c' hk).2, h.nd⟩
  · by_cases hks : k = s
    · subst hks; simp only [Env.shr, if_true]; exact hptr
    · simp only [Env.shr, if_neg hks] at hkok ⊢
      rcases hok k hkok with hkk | ⟨x, y, hq⟩
      · have := (h.fr.val k hk hkk).mono hS
        cases hq : e k <;> rw [hq] at this hkk <;> first | exact this | cases hkk
      · rw [hq] at hkok ⊢
        simp only [unl, if_true]
        exact .junk _
  · by_cases hks : k = s
    · subst hks; simp [Env.shr] at he1
    · simp only [Env.shr, if_neg hks] at he1 ⊢
      have he2 : e k = .lbox g1 cs1 := by
        cases hq : e k <;> rw [hq] at he1 <;> simp only [unl] at he1 <;> first | exact he1 | (split at he1 <;> cases he1) | cases he1
      obtain ⟨c1, arr1, t1, q1, q2, q3, q4⟩ := h.fr.lb k g1 cs1 hk he2
      exact ⟨c1, arr1, t1, q1, q2, q3, q4.mono hS⟩
  · by_cases hks : k = s
    · subst hks; simp [Env.shr] at he1
    · simp only [Env.shr, if_neg hks] at he1
      have he2 : e k = .fbox g1 cs1 := by
        cases hq : e k <;> rw [hq] at he1 <;> simp only [unl] at he1 <;> first | exact he1 | (split at he1 <;> cases he1) | cases he1
      exact ⟨(h.fr.fb k g1 cs1 hk he2).1.mono hS, (h.fr.fb k g1 cs1 hk he2).2⟩
  · by_cases hks : k = s
    · subst hks; simp [Env.shr] at he1
    · simp only [Env.shr, if_neg hks] at he1
      have he2 : e k = .lptr s' g1 off ∧ s' ≠ s := unl_lptr he1
      obtain ⟨q1, g', cs1, q2, q3, q4⟩ := h.fr.lp k s' g1 off hk he2.1
      refine ⟨q1, g', cs1, ?_, q3, q4⟩
      simp only [Env.shr, if_neg he2.2]
      rcases q2 with q2 | q2 <;> rw [q2] <;> simp [unl]
  · have hks : k ≠ s := fun hh => hk (hh ▸ hB)
    simp only [Env.shr, if_neg hks]
    obtain ⟨q1, q2⟩ := h.fr.out k hk
    constructor
    all_goals
      intro g1 cs1 hh
      cases hq : e k <;> rw [hq] at hh <;> simp only [unl] at hh <;> first | exact absurd (hq.trans hh) (q1 _ _) | exact absurd (hq.trans hh) (q2 _ _) | (split at hh <;> cases hh) | cases hh
  · obtain ⟨hks, hk2⟩ := hif k c' hk
    rcases hown c' ho with rfl | ho
    · exact hks (h.pv.inj k s _ hk2 h1)
    · exact h.pv.own k c' hk2 ho
  · rcases hown d ho with rfl | ho
    · exact h.pv.PD s _ h1 hd
    · exact (h.pv.df d hd).2 ho
  · refine ⟨h.kp.le.trans hS, h.kp.sz, h.kp.old, fun c' hc' ho => ?_, h.kp.G, h.kp.M, h.kp.sm⟩
    rcases hown c' ho with rfl | ho
    · have := h.nw s _ h1; omega
    · exact h.kp.own c' hc' ho

/-- a slice of memory's cells, read -/
theorem firstM {c off len cap sz : Nat} {arr : Array Value} {el : Nat} (hc : w.heap[c]? = some (.cells arr el (0, 0))) (hl : off + len * sz ≤ arr.size) :
    (Builtin.firstCells sz len (.slice (some ⟨c, off, none⟩) len cap)).run P w = .ok ((List.range (len * sz)).map fun i => arr.getD (off + i) undef).toArray w := by
  unfold Builtin.firstCells
  exact run_loadCells w ⟨c, off, none⟩ _ (fun i => arr.getD (off + i) undef) fun j hj => by
    rw [add_mk, cell_of_row w c _ arr el _ hc]
    simp [show off + j < arr.size by omega]

theorem cellsM {cs : List AV} {arr : Array Value} {off len sz : Nat} (hl : off + len * sz ≤ cs.length) (hf : cs.all AV.flat = true) (ha : cs.length ≤ arr.size)
    (hV : ∀ i, i < cs.length → VR S (cs.getD i .junk) (arr.getD i undef)) :
    VRs S ((chunk sz len (cs.drop off)).flatMap AV.cells) ((List.range (len * sz)).map fun i => arr.getD (off + i) undef) := by
  have hfl : ∀ x ∈ cs.drop off, x.flat = true := fun x hx => List.all_eq_true.1 hf x (List.mem_of_mem_drop hx)
  have hlen : len * sz ≤ (cs.drop off).length := by simp; omega
  have hcc := chunk_cells len _ hlen hfl
  have := flat_us (S := S) (es := chunk sz len (cs.drop off)) (sz := sz) (us := fun i => arr.getD (off + i) undef) hcc fun i j hi hj => by
    rw [chunk_length] at hi
    have hij : i * sz + j < len * sz := by
      have : (i + 1) * sz ≤ len * sz := Nat.mul_le_mul_right _ hi
      rw [Nat.add_mul] at this; omega
    rw [chunk_flat len _ hlen hfl i j hi hj]
    have e1 : (cs.drop off).getD (i * sz + j) .junk = cs.getD (off + (i * sz + j)) .junk := by simp [List.getD_eq_getElem?_getD]
    rw [e1]
    exact hV _ (by omega)
  rw [chunk_length] at this
  exact this
end
end Av
end

section
/- Appends that make slices of memory, or copy them. -/
namespace Av
open Go

section
variable {P : Program} {chk : Nat → List Nat → Code → ACode → Bool} {p : AProg} {N : Nat} {B D : List Nat} {S0 : Gh} {H0 : H} {w0 : World} {S : Gh} {H : H} {Pv : Nat → Option Nat} {e : Env} {tmps : Array Value} {w : World} {o : Oper} {v : AV}

theorem elemsOf_inv {sz : Nat} {xv : AV} {nw : List AV} (hnw : elemsOf sz xv = some nw) : ∃ k', xv = .sl nw k' ∧ (∀ a ∈ nw, a.cells.length = sz) ∧ ∀ a ∈ nw, a.flats = true := by
  unfold elemsOf at hnw
  split at hnw
  · split at hnw
    · rename_i hall; cases hnw
      exact ⟨_, rfl, fun a ha => by have := List.all_eq_true.1 hall a ha; simp at this; exact this.1, fun a ha => by have := List.all_eq_true.1 hall a ha; simp at this; exact this.2⟩
    · cases hnw
  · cases hnw

/-- a slice of memory's block is written past its end, and has a new name -/
theorem FS.moveB (h : FS chk p.glob N B D S0 H0 w0 S H Pv e tmps w) {b c : Nat} {cs cs' : List AV} {arr arr' : Array Value} {el : Nat} (hb : S.ρ b = some c) (hg : H.get b = some (.cells cs))
    (harr : w.heap[c]? = some (.cells arr el (0, 0))) (hl : cs'.length ≤ arr'.size) (hV : ∀ i, i < cs'.length → VR S (cs'.getD i .junk) (arr'.getD i undef)) :
    FS chk p.glob N B D S0 H0 w0 (S.bind H.n c (some arr'.size)) ((H.put b .dead).new (.cells cs')) Pv e tmps (w.setRow c arr') ∧ (S.bind H.n c (some arr'.size)).ρ H.n = some c ∧ S.le (S.bind H.n c (some arr'.size)) := by
  have hheap' := setRow_heap w c arr arr' el (0, 0) harr
  have hoth : ∀ b, b ≠ c → (w.setRow c arr').heap[b]? = w.heap[b]? := fun b hb => by
    unfold World.setRow; simp [Array.getElem?_modify, Ne.symm hb]
  have hsize : (w.setRow c arr').heap.size = w.heap.size := by simp [World.setRow]
  have hlt : c < w.heap.size := (Array.getElem?_eq_some_iff.1 harr).1
  have hown : owned S H c := ⟨b, _, hb, hg, rfl⟩
  have hGn : ∀ o, S.G c o = none := fun o => by
    cases hv : S.G c o with
    | none => rfl
    | some v => exact absurd hown (h.wr.Gown c o v hv)
  have hMn : S.M c = none := by
    cases hv : S.M c with
    | none => rfl
    | some m => exact absurd hown (h.wr.Mown c m hv)
  obtain ⟨f1, f2, f3, f4⟩ := h.wr.fresh H.n (Nat.le_refl _)
  have hle : S.le (S.bind H.n c (some arr'.size)) := Gh.le_bind f1 f3
  have hno := h.wr.gone hb hg rfl
  have w1 : WR chk p.glob S (H.put b .dead) (w.setRow c arr') := h.wr.put hb hg rfl (by simp) hsize hoth trivial
  have w2 := w1.newAt (c := c) (o := .cells cs') (a := some arr'.size) hno (by omega) hGn hMn (by simp)
    ⟨arr', el, hheap', hl, fun a ha => by
      have hn : (H.put b .dead).n = H.n := rfl
      simp [Gh.bind, hn] at ha; exact ha.symm, fun i hi => (hV i hi).mono hle⟩
  have hn : (H.put b .dead).n = H.n := rfl
  rw [hn] at w2
  have hk : Keep S H w (S.bind H.n c (some arr'.size)) ((H.put b .dead).new (.cells cs')) (w.setRow c arr') := by
    refine ⟨hle, by omega, fun c' hc' hno' => hoth c' fun hcc => hno' (hcc ▸ .inl hown), fun c' hc' ho => ?_, fun _ _ _ _ => rfl, fun _ _ _ => rfl, .row w _ _⟩
    rcases ho with ⟨k, o', g1, g2, g3⟩ | ⟨t', j', g1, g2, g3⟩
    · by_cases hkn : k = H.n
      · subst hkn; simp [Gh.bind] at g1; subst g1; exact .inl hown
      · by_cases hkb : k = b
        · subst hkb; simp [Av.H.new, Av.H.put, hkn] at g2; subst g2; cases g3
        · simp [Av.H.new, Av.H.put, hkb, hkn] at g2; simp [Gh.bind, hkn] at g1; exact .inl ⟨k, o', g1, g2, g3⟩
    · by_cases hkn : t' = H.n
      · subst hkn; simp [Av.H.new, Av.H.put] at g1
      · by_cases hkb : t' = b
        · subst hkb; simp [Av.H.new, Av.H.put, hkn] at g1
        · simp [Av.H.new, Av.H.put, hkb, hkn] at g1; exact .inr ⟨t', j', g1, g2, g3⟩
  exact ⟨⟨w2, h.fr.keep h.pv hk, h.pv.keep hk, h.kp.trans hk, h.nw, h.nd⟩, by simp [Gh.bind], hle⟩

variable (h : FS chk p.glob N B D S0 H0 w0 S H Pv e tmps w) (hd : ∀ k, o.dst = some k → k < N ∧ k ∉ B)
include h hd

theorem h_appendM {sz bytes s x H'} (hc : chkH P N o (.appendM sz bytes s x) = true) (hs : stepH p e H (.appendM sz bytes s x) = some (v, H')) : Step1 P chk p.glob N B D S0 H0 w0 o tmps w (e.dst o.dst v) H' := by
  simp only [chkH] at hc
  split at hc
  · rename_i c ho
    simp only [Bool.and_eq_true] at hc
    obtain ⟨⟨h1, h2⟩, h3⟩ := hc
    split at h1
    · rename_i hcal
      obtain ⟨y, z, hargs, hy, hz⟩ := two_args h3
      obtain ⟨t, u, el, eu, ie, zv, htys, hu, hsz, hie, hby, hb0, hs0, hzv, hzs, hu2⟩ := appT_ok h2
      have hexec : ∀ {r w'}, (Builtin.append_ #[t, u] o.type #[evalT tmps y, evalT tmps z]).run P w = .ok r w' → (execOp (evalT tmps) o).run P w = .ok (.value r) w' := by
        intro r w' hr
        simp [execOp, ho, resolve, hcal, invoke, builtin, htys, hargs, hr]
      simp only [stepH] at hs
      split at hs
      · rename_i sv xv hes hxv
        split at hs
        · rename_i nw hnw
          have hS := ev_ok h.wr h.fr hy hes
          have hX := ev_ok h.wr h.fr hz hxv
          obtain ⟨k', rfl, hnz, hnf⟩ := elemsOf_inv hnw
          obtain ⟨bx, cx, hxE⟩ := hX.sl_len
          have hnl : (nw.flatMap AV.cells).length = nw.length * sz := flat_len nw hnz
          -- a new block
          have grow : ∀ (H1 : Av.H) (bs : Option Addr) (sl sc : Nat) (old : List Value) (cs : List AV), H1.n = H.n → FS chk p.glob N B D S0 H0 w0 S H1 Pv e tmps w → evalT tmps y = .slice bs sl sc → sc < sl + nw.length →
              roomFor (sl + nw.length) bytes = true → cs.length = sl * sz → VRs S cs old →
              (Builtin.firstCells sz sl (.slice bs sl sc)).run P w.drew = .ok old.toArray w.drew →
              Step1 P chk p.glob N B D S0 H0 w0 o tmps w (e.dst o.dst (.msl H.n 0 (sl + nw.length) sz)) (H1.new (.cells (cs ++ nw.flatMap AV.cells))) := by
            intro H1 bs sl sc old cs hn1 h1 hsE hgt hroom hcl hoV hold
            obtain ⟨nc, hnew, hnV2⟩ := firstCells_run (P := P) (w := w.drew) (S := S) (es := nw) (k := k') (fun c o v hv => h.wr.G c o v hv) hX hnz
            obtain ⟨newCap, rest, hle, hrest, hrun⟩ := app_grow (P := P) (w := w) (ty := o.type) (sz := sz) (bx := bx) (cx := cx) (b := bs) (xv := evalT tmps z) hu hsz hu2 hxE hie hzv hzs hb0 (by rw [hby]; exact hroom)
              hold hnew hgt
            have hol : old.length = sl * sz := by rw [hoV.1, hcl]
            have hncl : nc.length = nw.length * sz := by rw [hnV2.1, hnl]
            have hsize : (old.toArray ++ nc.toArray ++ rest).size = newCap * sz := by
              simp [hol, hncl, hrest]
              rw [← Nat.add_mul, ← Nat.add_mul]
              congr 1; omega
            have hVV : VRs S (cs ++ nw.flatMap AV.cells) (old ++ nc) := hoV.append hnV2
            have hcsl : (cs ++ nw.flatMap AV.cells).length = (sl + nw.length) * sz := by simp only [List.length_append, hcl, hnl, Nat.add_mul]
            have hmul : (sl + nw.length) * sz ≤ newCap * sz := Nat.mul_le_mul_right _ hle
            have hwd : w.drew.heap.size = w.heap.size := rfl
            obtain ⟨hFS, hρ, hSle⟩ := h1.drew.new (ao := .cells (cs ++ nw.flatMap AV.cells)) (ob := .cells (old.toArray ++ nc.toArray ++ rest) el (0, 0)) (a := some (old.toArray ++ nc.toArray ++ rest).size) (by simp) rfl (by
              refine ⟨_, el, heap_alloc_at w.drew _, by omega, fun a ha => by simpa [Gh.bind] using ha.symm, fun i hi => ?_⟩
              have hi2 : i < old.length + nc.length := by
                have := hVV.1; rw [List.length_append] at this; omega
              have e1 : (old.toArray ++ nc.toArray ++ rest).getD i undef = (old ++ nc).getD i undef := by
                rw [Array.getD_eq_getD_getElem?, List.getD_eq_getElem?_getD, Array.getElem?_append_left (by simp; omega)]
                simp
              rw [e1]
              exact (hVV.2 i hi).mono (Gh.le_bind (h1.wr.fresh _ (Nat.le_refl _)).1 (h1.wr.fresh _ (Nat.le_refl _)).2.2.1))
            rw [hwd, hn1] at hFS hρ hSle
            refine ⟨_, Pv, _, _, _, hexec (by rw [hsE]; exact hrun), .inl rfl, hFS.put hd (.inl ?_)⟩
            refine .msl _ _ _ _ _ _ hρ hle (.inr ⟨_, if_pos rfl, ?_⟩)
            omega
          unfold appM at hs
          split at hs
          · -- an empty one
            obtain ⟨bs, cs, hsE⟩ := hS.sl_len
            split at hs
            · rename_i hn0
              cases hs
              have hnil : nw = [] := List.length_eq_zero_iff.1 hn0
              subst hnil
              obtain ⟨ncells, hfc, hnV⟩ := firstCells_run (P := P) (w := w) h.wr.G hX hnz
              have hcnil : ncells = [] := by have := hnV.1; simpa using this
              subst hcnil
              have := app_none (P := P) (w := w) (ty := o.type) (bx := bx) (cx := cx) hu hsz hu2 hxE (by simpa using hfc) bs (Nat.zero_le cs)
              refine ⟨S, Pv, w, _, evalT tmps y, hexec (by rw [hsE]; exact this), .inl (by rw [hsE]; rfl), h.put hd (.inl hS)⟩
            · rename_i hn0
              split at hs
              · rename_i hroom
                cases hs
                have hc0 : cs = 0 := by
                  rcases hS.sl_inv with ⟨c', o', cap, sz', us, hE, _, _, _, hK⟩ | ⟨_, hE, _⟩
                  · rw [hsE] at hE; cases hE; exact hK
                  · rw [hsE] at hE; cases hE; rfl
                subst hc0
                have := grow H bs 0 0 [] [] rfl h hsE (by omega) (by rw [Nat.zero_add]; exact hroom) (by simp) .nil (by simp [Builtin.firstCells]; cases bs <;> simp [loadCells, loadCellsFrom])
                rw [Nat.zero_add] at this
                simpa using this
              · cases hs
          · rename_i b len sz'
            obtain ⟨c', cap, hsE, hρ, hcap, ha⟩ := hS.msl_inv
            obtain ⟨_, ao, hg, hOR⟩ := h.wr.dom b c' hρ
            split at hs
            · rename_i cs hb
              rw [hb] at hg; cases hg
              split at hs
              · rename_i hcond
                obtain ⟨rfl, hcl, hroom, hn0⟩ := hcond
                cases hs
                obtain ⟨arr, el', q1, q2, q3, q4⟩ := hOR
                have hcs2 : VRs S cs ((List.range (len * sz')).map fun i => arr.getD (0 + i) undef) := by
                  refine ⟨by simp [hcl], fun i hi => ?_⟩
                  have : i < len * sz' := by omega
                  rw [List.getD_eq_getElem?_getD (l := (List.range (len * sz')).map _)]
                  simp only [List.getElem?_map, List.getElem?_range this, Option.map_some, Option.getD_some, Nat.zero_add]
                  exact q4 i hi
                by_cases hfit : len + nw.length ≤ cap
                · -- in its own block
                  have hasz : cap * sz' ≤ arr.size := by
                    rcases ha with ha | ⟨a, ha, hca⟩
                    · omega
                    · have := q3 a ha; omega
                  obtain ⟨nc, hnew, hnV⟩ := firstCells_run (P := P) (w := w) h.wr.G hX hnz
                  have hncl : nc.length = nw.length * sz' := by rw [hnV.1, hnl]
                  have hm1 : (len + nw.length) * sz' ≤ cap * sz' := Nat.mul_le_mul_right _ hfit
                  rw [Nat.add_mul] at hm1
                  have hone : ∀ x ∈ nc, x.oneCell' = true := fun x hx => by
                    obtain ⟨j, hj, rfl⟩ := List.mem_iff_getElem.1 hx
                    have hj' : j < (nw.flatMap AV.cells).length := by rw [← hnV.1]; exact hj
                    have hjv := hnV.2 j hj'
                    rw [List.getD_eq_getElem?_getD, List.getD_eq_getElem?_getD, List.getElem?_eq_getElem hj, List.getElem?_eq_getElem hj'] at hjv
                    refine oneCell_of hjv ?_
                    obtain ⟨a, ha, hb⟩ := List.mem_flatMap.1 (List.getElem_mem hj')
                    exact flats_cells (hnf a ha) _ hb
                  have hst := run_storeCells_at (P := P) c' (0 + len * sz') el' nc 0 arr w q1 (by omega) hone
                  rw [Nat.add_zero] at hst
                  generalize harr : (arr.toList.take (0 + len * sz') ++ nc ++ arr.toList.drop (0 + len * sz' + nc.length)).toArray = arr' at hst
                  have hasz' : arr'.size = arr.size := by rw [← harr]; simp; omega
                  have hrun := app_in (P := P) (w := w) (ty := o.type) (t := t) (u := u) (bx := bx) (cx := cx) (c := c') (o := 0) (sLen := len) (sCap := cap) hu hsz hu2 hxE hnew hfit (by simpa using hst)
                  obtain ⟨hFS, hρ', hSle⟩ := h.moveB (cs' := cs ++ nw.flatMap AV.cells) (arr' := arr') hρ hb q1 (by rw [List.length_append, hnl, hcl, hasz']; omega) (fun i hi => by
                    rw [List.length_append, hnl, hcl] at hi
                    rw [← harr, Array.getD_eq_getD_getElem?, List.getElem?_toArray, ← List.getD_eq_getElem?_getD, List.append_assoc]
                    simp only [Nat.zero_add]
                    by_cases c1 : i < len * sz'
                    · have e1 : (cs ++ nw.flatMap AV.cells).getD i .junk = cs.getD i .junk := by
                        rw [List.getD_eq_getElem?_getD, List.getD_eq_getElem?_getD, List.getElem?_append_left (by omega)]
                      have e2 : (arr.toList.take (len * sz') ++ (nc ++ arr.toList.drop (len * sz' + nc.length))).getD i undef = arr.getD i undef := by
                        rw [List.getD_eq_getElem?_getD, List.getElem?_append_left (by simp; omega), List.getElem?_take, if_pos c1, Array.getD_eq_getD_getElem?]
                        simp
                      rw [e1, e2]
                      exact q4 i (by omega)
                    · have e1 : (cs ++ nw.flatMap AV.cells).getD i .junk = (nw.flatMap AV.cells).getD (i - len * sz') .junk := by
                        rw [List.getD_eq_getElem?_getD, List.getD_eq_getElem?_getD, List.getElem?_append_right (by omega), hcl]
                      have e2 : (arr.toList.take (len * sz') ++ (nc ++ arr.toList.drop (len * sz' + nc.length))).getD i undef = nc.getD (i - len * sz') undef := by
                        rw [List.getD_eq_getElem?_getD, List.getD_eq_getElem?_getD, List.getElem?_append_right (by simp; omega)]
                        have : (List.take (len * sz') arr.toList).length = len * sz' := by simp; omega
                        rw [this, List.getElem?_append_left (by omega)]
                      rw [e1, e2]
                      exact hnV.2 _ (by omega))
                  refine ⟨_, Pv, _, _, _, hexec (by rw [hsE]; exact hrun), .inl rfl, hFS.put hd (.inl ?_)⟩
                  refine .msl _ _ _ _ _ _ hρ' hfit (.inr ⟨_, if_pos rfl, ?_⟩)
                  rw [hasz']; omega
                · -- in a new one
                  have hk1 := h.putH (ao' := .dead) (w' := w) hρ hb rfl (by simp) rfl (fun _ _ => rfl) (.refl w) trivial
                  refine grow (H.put b .dead) (some ⟨c', 0, none⟩) len cap ((List.range (len * sz')).map fun i => arr.getD (0 + i) undef) cs rfl hk1 hsE (by omega) hroom hcl hcs2 ?_
                  exact firstM (w := w.drew) (el := el') q1 (by omega)
              · cases hs
            · cases hs
          · cases hs
        · cases hs
      · cases hs
    · cases h1
  · cases hc

theorem h_appendC {sz bytes s x H'} (hc : chkH P N o (.appendC sz bytes s x) = true) (hs : stepH p e H (.appendC sz bytes s x) = some (v, H')) : Step1 P chk p.glob N B D S0 H0 w0 o tmps w (e.dst o.dst v) H' := by
  simp only [chkH] at hc
  split at hc
  · rename_i c ho
    simp only [Bool.and_eq_true] at hc
    obtain ⟨⟨h1, h2⟩, h3⟩ := hc
    split at h1
    · rename_i hcal
      obtain ⟨y, z, hargs, hy, hz⟩ := two_args h3
      obtain ⟨t, u, el, eu, ie, zv, htys, hu, hsz, hie, hby, hb0, hs0, hzv, hzs, hu2⟩ := appT_ok h2
      have hexec : ∀ {r w'}, (Builtin.append_ #[t, u] o.type #[evalT tmps y, evalT tmps z]).run P w = .ok r w' → (execOp (evalT tmps) o).run P w = .ok (.value r) w' := by
        intro r w' hr
        simp [execOp, ho, resolve, hcal, invoke, builtin, htys, hargs, hr]
      simp only [stepH] at hs
      split at hs
      · rename_i xv hes hxv
        split at hs
        · rename_i nw hnw
          have hS := ev_ok h.wr h.fr hy hes
          have hX := ev_ok h.wr h.fr hz hxv
          obtain ⟨bs, cs0, hsE⟩ := hS.sl_len
          unfold elemsM at hnw
          split at hnw
          · rename_i b off len sz'
            obtain ⟨c', cap, hxE, hρ, hcap, ha⟩ := hX.msl_inv
            obtain ⟨_, ao, hg, hOR⟩ := h.wr.dom b c' hρ
            split at hnw
            · rename_i cs hb
              rw [hb] at hg; cases hg
              split at hnw
              · rename_i hcond
                obtain ⟨rfl, hl, hfl⟩ := hcond
                cases hnw
                obtain ⟨arr, el', q1, q2, q3, q4⟩ := hOR
                have hfl' : ∀ x ∈ cs.drop off, x.flat = true := fun x hx => List.all_eq_true.1 hfl x (List.mem_of_mem_drop hx)
                have hlen : len * sz' ≤ (cs.drop off).length := by simp; omega
                have hnz := chunk_cells len _ hlen hfl'
                have hcc := cellsM (S := S) hl hfl q2 q4
                have hchl := chunk_length (sz := sz') len (cs.drop off)
                generalize hnw : chunk sz' len (cs.drop off) = nw at hs hnz hcc hchl
                subst hchl
                have hc0 : cs0 = 0 := by
                  rcases hS.sl_inv with ⟨c', o', cap, sz', us, hE, _, _, _, hK⟩ | ⟨_, hE, _⟩
                  · rw [hsE] at hE; cases hE; exact hK
                  · rw [hsE] at hE; cases hE; rfl
                subst hc0
                split at hs
                · rename_i hn0
                  cases hs
                  have hf := firstM (P := P) (cap := cap) (sz := sz') (len := nw.length) (off := off) q1 (by omega)
                  rw [hn0] at hf hxE
                  have := app_none (P := P) (w := w) (ty := o.type) hu hsz hu2 hxE (by rw [hxE]; simpa using hf) bs (Nat.le_refl 0)
                  refine ⟨S, Pv, w, _, evalT tmps y, hexec (by rw [hsE]; exact this), .inl (by rw [hsE]; rfl), h.put hd (.inl hS)⟩
                · rename_i hn0
                  split at hs
                  · rename_i hroom
                    cases hs
                    have hnew := firstM (P := P) (w := w.drew) (cap := cap) (sz := sz') (len := nw.length) (off := off) (el := el') q1 (by omega)
                    rw [← hxE] at hnew
                    obtain ⟨newCap, rest, hle, hrest, hrun⟩ := app_grow (P := P) (w := w) (ty := o.type) (sz := sz') (sLen := 0) (sCap := 0) (b := bs) (xv := evalT tmps z) (old := #[]) hu hsz hu2 hxE hie hzv hzs hb0 (by rw [hby, Nat.zero_add]; exact hroom)
                      (by simp [Builtin.firstCells]; cases bs <;> simp [loadCells, loadCellsFrom]) hnew (by omega)
                    generalize hnc : ((List.range (nw.length * sz')).map fun i => arr.getD (off + i) undef) = nc at hcc hrun
                    have hncl : nc.length = nw.length * sz' := by rw [← hnc]; simp
                    have hsize : (nc.toArray ++ rest).size = newCap * sz' := by
                      simp [hncl, hrest]
                      rw [← Nat.add_mul]
                      congr 1; omega
                    rw [Nat.zero_add] at hle hrun
                    have e0 : (#[] : Array Value) ++ nc.toArray ++ rest = nc.toArray ++ rest := by simp
                    rw [e0] at hrun
                    obtain ⟨hFS, hSle⟩ := h.drew.tokNew (nc.toArray ++ rest) el (nw.length * sz') (by rw [hsize]; exact Nat.mul_le_mul_right _ hle)
                    refine ⟨_, Pv, _, _, _, hexec (by rw [hsE]; exact hrun), .inl rfl, hFS.put hd (.inl ?_)⟩
                    have hVV : VRs S ((nw.map AV.shutv).flatMap AV.cells) nc := flat_shut hnz hcc
                    have hboth : ∀ a ∈ nw.map AV.shutv, a.cells.length = sz' := fun a ha => by
                      obtain ⟨b, hb, rfl⟩ := List.mem_map.1 ha
                      rw [shutv_cells_length]; exact hnz b hb
                    have hw : w.drew.heap.size = w.heap.size := rfl
                    have := VR.mkSl (k := .opn H.n) (c := w.heap.size) (o := 0) (cap := newCap) (sz := sz') hboth (hVV.mono hSle) (fun i v hv => by
                      have hil : i < nc.length := (List.getElem?_eq_some_iff.1 hv).1
                      rw [Nat.zero_add]
                      simp only [Gh.addT, Gh.addG, hw, if_true]
                      rw [if_pos (by omega)]
                      rw [Array.getElem?_append_left (by simp; omega)]
                      simpa using hv) (by
                        refine ⟨by simp; omega, by simpa using hle, ?_⟩
                        simp only [Gh.addT, if_true, hw, hsize]
                        simp)
                    have hlen2 : (nw.map AV.shutv).length = nw.length := by simp
                    rw [hlen2] at this
                    exact this
                  · cases hs
              · cases hnw
            · cases hnw
          · cases hnw
        · cases hs
      · cases hs
    · cases h1
  · cases hc
end
end Av
end

section
/- Slices of memory that literals make, structs whose slices come to stay, zeros that are appended. -/
namespace Av
open Go

theorem cms_flat : ∀ {xs : List AV} {vs : List Value}, cms xs vs = true → ∀ x ∈ xs, x.flat = true
  | [], _, _ => fun x hx => by cases hx
  | y :: ys, [], h => by simp [cms] at h
  | y :: ys, v :: vs, h => fun x hx => by
    simp only [cms, Bool.and_eq_true] at h
    rcases List.mem_cons.1 hx with rfl | hx
    · have h1 := h.1
      unfold cm1 at h1
      split at h1 <;> first | rfl | cases h1
    · exact cms_flat h.2 x hx

section
variable {P : Program} {w : World} {t u sz n sLen sCap ty : Nat} {el : Nat}
theorem appz_in {c o : Nat} {w' : World} {ie : TypeInfo} {zv : Value} {ku : IntKind} (hu : P.underlying t = some (.slice el)) (hz : szOf P el sz = true) (hu2 : P.underlying u = some (.int ku))
    (hi : P.info? el = some ie) (hz0 : ie.zero = some zv) (hn : n ≤ 1048576) (hn0 : n * sz ≠ 0) (hr : n * ie.bytes ≤ 140737488355328) (hle : sLen + n ≤ sCap)
    (hst : (storeCells ⟨c, o + sLen * sz, none⟩ (Builtin.zeroCells zv.cells n).toList).run P w = .ok () w') :
    (Builtin.append_ #[t, u] ty #[.slice (some ⟨c, o, none⟩) sLen sCap, .int .i64 n]).run P w = .ok (.slice (some ⟨c, o, none⟩) (sLen + n) sCap) w' := by
  have hd : ∀ w', (zeroValue el).run P w' = .ok zv w' := fun w' => by simp [zeroValue, run_typeInfo w' hi, hz0]
  have hw := wrap_small (n := (n : Int)) (by omega) (by omega)
  have hna : ¬ (n : Int) < 0 := by omega
  have hb' : ¬ ((281474976710656 : Int) < (n : Int) * ie.bytes) := by
    have h0 : ((n * ie.bytes : Nat) : Int) ≤ 140737488355328 := by omega
    rw [Int.natCast_mul] at h0; omega
  have hz1 : ¬ n = 0 := fun h => hn0 (by simp [h])
  have hz2 : ¬ sz = 0 := fun h => hn0 (by simp [h])
  simp [Builtin.append_, run_underlying hu, run_underlying hu2, sz_run hz, asInt, asIntOf, hw, hna, run_typeInfo w hi, hb', hle, hz1, hz2, hd, add_mk, hst]
  exact fun hq => absurd hq hn0
theorem appz_grow {b : Option Addr} {old : Array Value} {ie : TypeInfo} {zv : Value} {ku : IntKind} (hu : P.underlying t = some (.slice el)) (hz : szOf P el sz = true) (hu2 : P.underlying u = some (.int ku))
    (hi : P.info? el = some ie) (hz0 : ie.zero = some zv) (hzs : zv.cells.size = sz) (hb0 : 0 < ie.bytes) (hn : n ≤ 1048576) (hn0 : n * sz ≠ 0) (hroom : roomFor (sLen + n) ie.bytes = true)
    (hold : (Builtin.firstCells sz sLen (.slice b sLen sCap)).run P w.drew = .ok old w.drew) (hgt : sCap < sLen + n) :
    ∃ newCap rest, sLen + n ≤ newCap ∧ rest.size = (newCap - (sLen + n)) * sz ∧
      (Builtin.append_ #[t, u] ty #[.slice b sLen sCap, .int .i64 n]).run P w = .ok (.slice (some ⟨w.heap.size, 0, none⟩) (sLen + n) newCap) (w.drew.alloc (.cells (old ++ Builtin.zeroCells zv.cells n ++ rest) el (0, 0))) := by
  have hnle : ¬ sLen + n ≤ sCap := by omega
  have hroom' : (sLen + n) * ie.bytes ≤ 140737488355328 ∧ sLen + n ≤ 4611686018427387904 := by simpa [roomFor] using hroom
  have hr : n * ie.bytes ≤ 140737488355328 := Nat.le_trans (Nat.mul_le_mul_right _ (by omega)) hroom'.1
  have hbig : ¬ Builtin.nextslicecap (sLen + n) sCap * ie.bytes > 2 ^ 48 := by
    have h1 := nextcap_le hgt
    have h2 := Nat.mul_le_mul_right ie.bytes h1
    have h3 : 2 * (sLen + n) * ie.bytes = 2 * ((sLen + n) * ie.bytes) := Nat.mul_assoc ..
    omega
  refine ⟨(sLen + n) + (w.tape w.drawn (.appendCap (sLen + n) sCap el)) % (2 ^ 63 - (sLen + n)), Builtin.zeroCells zv.cells ((sLen + n) + (w.tape w.drawn (.appendCap (sLen + n) sCap el)) % (2 ^ 63 - (sLen + n)) - (sLen + n)), Nat.le_add_right _ _, by rw [zeroCells_size, hzs], ?_⟩
  have hmax : IntKind.i64.max = 9223372036854775807 := rfl
  have hd : ∀ w', (zeroValue el).run P w' = .ok zv w' := fun w' => by simp [zeroValue, run_typeInfo w' hi, hz0]
  have hbig' : ¬ (2 ^ 48 < Builtin.nextslicecap (sLen + n) sCap * ie.bytes) := hbig
  have hw := wrap_small (n := (n : Int)) (by omega) (by omega)
  have hna : ¬ (n : Int) < 0 := by omega
  have hb' : ¬ ((281474976710656 : Int) < (n : Int) * ie.bytes) := by
    have h0 : ((n * ie.bytes : Nat) : Int) ≤ 140737488355328 := by omega
    rw [Int.natCast_mul] at h0; omega
  have hz1 : ¬ n = 0 := fun h => hn0 (by simp [h])
  have hz2 : ¬ sz = 0 := fun h => hn0 (by simp [h])
  simp only [Builtin.append_]
  simp [run_underlying hu, run_underlying hu2, sz_run hz, asInt, asIntOf, hw, hna, hb', hnle, run_typeInfo w hi, hz1, hz2]
  rw [if_neg (by omega)]
  simp [hbig']
  rw [if_neg (by simp [Question.forced]), run_typeInfo w.drew hi]
  simp only [Result.andThen_ok, hold, hd, run_newRow']
  simp [Question.cut]
  exact fun hq => absurd hq hn0
end

section
variable {P : Program} {chk : Nat → List Nat → Code → ACode → Bool} {p : AProg} {N : Nat} {B D : List Nat} {S0 : Gh} {H0 : H} {w0 : World} {S : Gh} {H : H} {Pv : Nat → Option Nat} {e : Env} {tmps : Array Value} {w : World} {o : Oper} {v : AV}
variable (h : FS chk p.glob N B D S0 H0 w0 S H Pv e tmps w) (hd : ∀ k, o.dst = some k → k < N ∧ k ∉ B)
include h hd

theorem h_loadz {n a H'} (hc : chkH P N o (.loadz n a) = true) (hs : stepH p e H (.loadz n a) = some (v, H')) : Step1 P chk p.glob N B D S0 H0 w0 o tmps w (e.dst o.dst v) H' := by
  simp only [chkH] at hc
  split at hc
  · rename_i t y ho
    simp only [Bool.and_eq_true] at hc
    obtain ⟨h1, h2⟩ := hc
    simp only [stepH] at hs
    split at hs
    · rename_i b off hv
      obtain ⟨c, hρ, hE⟩ := (ev_ok h.wr h.fr h2 hv).ptr_inv
      obtain ⟨_, ao, hg, hOR⟩ := h.wr.dom b c hρ
      split at hs
      · rename_i cs hb
        rw [hb] at hg; cases hg
        split at hs
        · rename_i vs hv'
          cases hs
          obtain ⟨arr, el, q1, q2, q3, q4⟩ := hOR
          have hl := part_len hv'
          have hP := part_VR (S := S) hv' (us := fun i => arr.getD (off + i) undef) (fun i h5 h6 => by
            show VR S _ (arr.getD (off + (i - off)) undef)
            rw [show off + (i - off) = i by omega]; exact q4 i (by omega)) (.inl rfl)
          have hr := load_run (P := P) (w := w) h1 (c := c) (o := off) (us := fun i => arr.getD (off + i) undef) fun i hi => by
            rw [cell_of_row w c _ arr el _ q1]; simp [show off + i < arr.size by omega]
          obtain ⟨us, hE2, hVs⟩ := hP.1.agg_inv
          obtain ⟨S1, f1, l1⟩ := fzH_ok (fzids vs) (fun b' hb' => by
            obtain ⟨off', len, sz, hm⟩ := fzids_mem hb'
            obtain ⟨i, hi⟩ := List.mem_iff_getElem?.1 hm
            obtain ⟨u, _, hV⟩ := hVs.get hi
            obtain ⟨c', _, _, hρ', _⟩ := hV.msl_inv
            exact ⟨c', hρ'⟩) h
          refine ⟨S1, Pv, w, _, ldV true n (fun i => arr.getD (off + i) undef), ?_, .inl rfl, f1.put hd (.inl ?_)⟩
          · simp only [execOp, ho, hE, Sem.run_bind, Instr.loadAt, Instr.sureAddr, Sem.run_pure, Result.andThen_ok, hr]
          · rw [hE2, fzvs_eq]
            have := VR.agg' ((hVs.mono l1).mapc (f := fzv (fzH H (fzids vs))) fun y u _ hr => fzv_ok f1.wr hr)
            simpa using this
        · cases hs
      · cases hs
    · cases hs
  · cases hc

theorem h_bsliceM {sz zs len ps H'} (hc : chkH P N o (.bsliceM sz zs len ps) = true) (hs : stepH p e H (.bsliceM sz zs len ps) = some (v, H')) : Step1 P chk p.glob N B D S0 H0 w0 o tmps w (e.dst o.dst v) H' := by
  simp only [chkH] at hc
  split at hc
  · rename_i t l parts ho
    simp only [Bool.and_eq_true, beq_iff_eq, decide_eq_true_eq] at hc
    obtain ⟨⟨⟨⟨⟨h1, rfl⟩, h2⟩, h3⟩, h4⟩, h5⟩ := hc
    split at h1
    · rename_i el hel
      obtain ⟨hu, hsz⟩ := slT_ok hel
      simp only [stepH] at hs
      split at hs
      · rename_i es hes
        cases hs
        unfold zmatch at h1
        split at h1
        · rename_i ie hie
          simp only [Bool.and_eq_true, beq_iff_eq] at h1
          obtain ⟨h1, h6⟩ := h1
          split at h1
          · rename_i z hz
            have hZ : VRs S zs z.cells.toList := cms_ok h1
            have hzl : z.cells.size = sz := by have := hZ.1; simp at this; omega
            have hie' : ie.size = sz := by omega
            generalize hz0 : unit zs = z0 at hes
            have hz0c : z0.cells = zs := by
              rw [← hz0]
              unfold unit
              split
              · rename_i z1
                have := hZ.1
                cases hzz : z.cells.toList with
                | nil => rw [hzz] at this; simp at this
                | cons a as =>
                  simp [cms, hzz] at h1
                  have h1' := h1.1
                  unfold cm1 at h1'
                  split at h1' <;> first | rfl | cases h1'
              · rfl
            have hinit : VRs S ((List.replicate l z0).flatMap AV.cells) ((Array.range (l * sz)).map fun i => z.cells[i % z.cells.size]!).toList := by
              refine .of (by rw [flat_len _ (by intro a ha; rw [List.eq_of_mem_replicate ha, hz0c, h2])]; simp) fun i x u hx hu' => ?_
              have hi : i < l * sz := by
                have := (List.getElem?_eq_some_iff.1 hu').1; simpa using this
              have hq : i = (i / sz) * sz + i % sz := by rw [Nat.mul_comm]; exact (Nat.div_add_mod i sz).symm
              have hdiv : i / sz < l := (Nat.div_lt_iff_lt_mul h3).2 hi
              have hmod : i % sz < sz := Nat.mod_lt _ h3
              have e1 := flat_get (List.replicate l z0) (i / sz) (i % sz) (sz := sz) (by intro a ha; rw [List.eq_of_mem_replicate ha, hz0c, h2]) (by simpa using hdiv) hmod
              rw [← hq, List.getD_eq_getElem?_getD, hx] at e1
              simp only [Option.getD_some] at e1
              rw [List.getD_eq_getElem?_getD (l := List.replicate l z0)] at e1
              simp [hdiv, hz0c] at e1
              simp [hi, hzl] at hu'
              subst e1; subst hu'
              have := hZ.2 (i % sz) (by omega)
              simpa [hmod, hzl, List.getD_eq_getElem?_getD] using this
            obtain ⟨cells, hfill, hV, hzs, hlen⟩ := elems_run (sz := sz) h.wr h.fr parts.toList ps _ es _ hinit (by intro a ha; rw [List.eq_of_mem_replicate ha, hz0c, h2]) hes h5
            have hl0 : es.length = l := by simpa using hlen
            have hrun : (Instr.buildSlice t l (parts.map fun q => (q.1, evalT tmps q.2))).run P w = .ok (.slice (some ⟨w.heap.size, 0, none⟩) l l) (w.alloc (.cells cells el (0, 0))) := by
              by_cases hpos : l * ie.size = 0
              · have hsz0 : l * sz = 0 := by rw [← hie']; exact hpos
                rw [hsz0] at hfill
                have hem : ∀ f : Nat → Value, (Array.range 0).map f = #[] := fun f => by apply Array.ext <;> simp
                rw [hem] at hfill
                unfold Instr.buildSlice
                rw [Sem.run_bind, run_underlying hu]
                simp only [Result.andThen_ok, Sem.run_bind, sz_run hsz, hsz0]
                simp [hem, hfill, run_newRow']
              · exact run_buildSlice w t el l _ cells ie z hu hie hz (by rw [hie']; omega) hpos (by rw [hie']; simpa using hfill)
            have hcl : (es.flatMap AV.cells).length = cells.size := by have := hV.1; simpa using this.symm
            obtain ⟨hFS, hρ, hle⟩ := h.new (ao := .cells (es.flatMap AV.cells)) (ob := .cells cells el (0, 0)) (a := some cells.size) (by simp) rfl (by
              refine ⟨_, el, heap_alloc_at w _, by omega, fun a ha => by simpa [Gh.bind] using ha.symm, fun i hi => ?_⟩
              have := (hV.2 i hi).mono (S' := S.bind H.n w.heap.size (some cells.size)) (Gh.le_bind (h.wr.fresh _ (Nat.le_refl _)).1 (h.wr.fresh _ (Nat.le_refl _)).2.2.1)
              rw [getD_toList]; exact this)
            refine ⟨_, _, _, _, .slice (some ⟨w.heap.size, 0, none⟩) l l, ?_, .inl rfl, hFS.put hd (.inl (.msl _ _ _ _ _ _ hρ (Nat.le_refl _) (.inl rfl)))⟩
            simp only [execOp, ho, Sem.run_bind]
            rw [show (Array.map (fun x => match x with | (i, x) => (i, evalT tmps x)) parts) = parts.map fun q => (q.1, evalT tmps q.2) from rfl, hrun]
            rfl
          · cases h1
        · cases h1
      · cases hs
    · cases h1
  · cases hc

theorem h_appendZ {sz bytes zs s n H'} (hc : chkH P N o (.appendZ sz bytes zs s n) = true) (hs : stepH p e H (.appendZ sz bytes zs s n) = some (v, H')) : Step1 P chk p.glob N B D S0 H0 w0 o tmps w (e.dst o.dst v) H' := by
  simp only [chkH] at hc
  split at hc
  · rename_i c ho
    simp only [Bool.and_eq_true, decide_eq_true_eq] at hc
    obtain ⟨⟨⟨h1, h2⟩, h3⟩, hnb⟩ := hc
    split at h1
    · rename_i hcal
      obtain ⟨y, z, hargs, hy, hz⟩ := two_args h3
      unfold appZ at h2
      split at h2
      · rename_i t u htys0
        have htys : c.argTypes = #[t, u] := by rw [← Array.toArray_toList (xs := c.argTypes), htys0]
        simp only [Bool.and_eq_true] at h2
        obtain ⟨h2, hu2'⟩ := h2
        split at hu2'
        · rename_i ku hu2
          split at h2
          · rename_i el hu
            simp only [Bool.and_eq_true, decide_eq_true_eq] at h2
            obtain ⟨⟨⟨hsz, hby'⟩, hs0⟩, hzm⟩ := h2
            obtain ⟨zv, hzv', hZ, hzsz⟩ := zero_run (S := S) hzm w
            unfold byOf at hby'
            split at hby'
            · rename_i ie hie
              simp only [Bool.and_eq_true, beq_iff_eq, decide_eq_true_eq] at hby'
              obtain ⟨hby, hb0⟩ := hby'
              have hzv : ie.zero = some zv := by
                simp only [zeroValue, Sem.run_bind, run_typeInfo _ hie, Result.andThen_ok] at hzv'
                cases hq : ie.zero with
                | none => rw [hq] at hzv'; simp at hzv'
                | some zz => rw [hq] at hzv'; simp at hzv'; rw [hzv']
              have hzz : evalT tmps z = .int .i64 n := by
                have := ev_ok (p := p) h.wr h.fr hz (v := .int .i64 n) rfl
                exact this.int_inv
              have hexec : ∀ {r w'}, (Builtin.append_ #[t, u] o.type #[evalT tmps y, .int .i64 n]).run P w = .ok r w' → (execOp (evalT tmps) o).run P w = .ok (.value r) w' := by
                intro r w' hr
                simp [execOp, ho, resolve, hcal, invoke, builtin, htys, hargs, hzz, hr]
              simp only [stepH] at hs
              split at hs
              · rename_i b len sz' hes
                have hS := ev_ok h.wr h.fr hy hes
                obtain ⟨c', cap, hsE, hρ, hcap, ha⟩ := hS.msl_inv
                obtain ⟨_, ao, hg, hOR⟩ := h.wr.dom b c' hρ
                split at hs
                · rename_i cs hb
                  rw [hb] at hg; cases hg
                  split at hs
                  · rename_i hcond
                    obtain ⟨rfl, hcl, hroom, hn0⟩ := hcond
                    cases hs
                    have hzsl : zs.length = sz' := by
                      simp only [szOf] at hsz hzsz
                      rw [hie] at hsz hzsz
                      simp at hsz hzsz; omega
                    have hzl : zv.cells.size = sz' := by have := hZ.1; simp at this; omega
                    have hnn0 : n * sz' ≠ 0 := Nat.ne_of_gt (Nat.mul_pos (by omega) hs0)
                    have hroom2 : roomFor (len + n) ie.bytes = true := by rw [hby]; exact hroom
                    have hroom' : (len + n) * ie.bytes ≤ 140737488355328 ∧ len + n ≤ 4611686018427387904 := by simpa [roomFor] using hroom2
                    have hr : n * ie.bytes ≤ 140737488355328 := Nat.le_trans (Nat.mul_le_mul_right _ (by omega)) hroom'.1
                    generalize hnc : (Builtin.zeroCells zv.cells n).toList = nc
                    have hncl : nc.length = n * sz' := by rw [← hnc]; simp [zeroCells_size, hzl]
                    have hnV : VRs S ((List.replicate n zs).flatten) nc := by
                      rw [← hnc]
                      refine .of (by simp [zeroCells_size, hzl, hzsl]) fun i x u hx hu' => ?_
                      have hi : i < n * sz' := by
                        have := (List.getElem?_eq_some_iff.1 hu').1
                        rw [hnc, hncl] at this; exact this
                      have hmod : i % sz' < sz' := Nat.mod_lt _ hs0
                      have hx' : zs[i % sz']? = some x := by
                        rw [← hx]
                        have key : ∀ (m i : Nat), i < m * sz' → ((List.replicate m zs).flatten)[i]? = zs[i % sz']? := by
                          intro m
                          induction m with
                          | zero => intro i hi; simp at hi
                          | succ m ih =>
                            intro i hi
                            rw [List.replicate_succ, List.flatten_cons]
                            by_cases c1 : i < sz'
                            · rw [List.getElem?_append_left (by omega), Nat.mod_eq_of_lt c1]
                            · rw [List.getElem?_append_right (by omega), ih _ (by rw [Nat.add_mul] at hi; omega), hzsl, ← Nat.mod_eq_sub_mod (by omega)]
                        exact (key n i hi).symm
                      obtain ⟨u', hu1, hu2⟩ := hZ.get hx'
                      simp [Builtin.zeroCells, hi, hzl] at hu'
                      subst hu'
                      simp at hu1
                      rw [getElem!_def, hu1]; exact hu2
                    have hnl : ((List.replicate n zs).flatten).length = n * sz' := by rw [← hnV.1, hncl]
                    obtain ⟨arr, el', q1, q2, q3, q4⟩ := hOR
                    by_cases hfit : len + n ≤ cap
                    · -- in its own block
                      have hasz : cap * sz' ≤ arr.size := by
                        rcases ha with ha | ⟨a, ha, hca⟩
                        · omega
                        · have := q3 a ha; omega
                      have hm1 : (len + n) * sz' ≤ cap * sz' := Nat.mul_le_mul_right _ hfit
                      rw [Nat.add_mul] at hm1
                      have hone : ∀ x ∈ nc, x.oneCell' = true := fun x hx => by
                        obtain ⟨j, hj, rfl⟩ := List.mem_iff_getElem.1 hx
                        have hj' : j < ((List.replicate n zs).flatten).length := by rw [← hnV.1]; exact hj
                        have hjv := hnV.2 j hj'
                        rw [List.getD_eq_getElem?_getD, List.getD_eq_getElem?_getD, List.getElem?_eq_getElem hj, List.getElem?_eq_getElem hj'] at hjv
                        refine oneCell_of hjv ?_
                        have hmem := List.getElem_mem hj'
                        obtain ⟨l', hl', hm'⟩ := List.mem_flatten.1 hmem
                        rw [List.eq_of_mem_replicate hl'] at hm'
                        unfold zmatch at hzm
                        rw [hie] at hzm
                        simp only [Bool.and_eq_true, hzv] at hzm
                        exact cms_flat hzm.1 _ hm'
                      have hst := run_storeCells_at (P := P) c' (0 + len * sz') el' nc 0 arr w q1 (by omega) hone
                      rw [Nat.add_zero] at hst
                      generalize harr : (arr.toList.take (0 + len * sz') ++ nc ++ arr.toList.drop (0 + len * sz' + nc.length)).toArray = arr' at hst
                      have hasz' : arr'.size = arr.size := by rw [← harr]; simp; omega
                      have hrun := appz_in (P := P) (w := w) (ty := o.type) (t := t) (u := u) (c := c') (o := 0) (sLen := len) (sCap := cap) (n := n) hu hsz hu2 hie hzv hnb hnn0 hr hfit (by rw [hnc]; simpa using hst)
                      obtain ⟨hFS, hρ', hSle⟩ := h.moveB (cs' := cs ++ (List.replicate n zs).flatten) (arr' := arr') hρ hb q1 (by rw [List.length_append, hnl, hcl, hasz']; omega) (fun i hi => by
                        rw [List.length_append, hnl, hcl] at hi
                        rw [← harr, Array.getD_eq_getD_getElem?, List.getElem?_toArray, ← List.getD_eq_getElem?_getD, List.append_assoc]
                        simp only [Nat.zero_add]
                        by_cases c1 : i < len * sz'
                        · have e1 : (cs ++ (List.replicate n zs).flatten).getD i .junk = cs.getD i .junk := by
                            rw [List.getD_eq_getElem?_getD, List.getD_eq_getElem?_getD, List.getElem?_append_left (by omega)]
                          have e2 : (arr.toList.take (len * sz') ++ (nc ++ arr.toList.drop (len * sz' + nc.length))).getD i undef = arr.getD i undef := by
                            rw [List.getD_eq_getElem?_getD, List.getElem?_append_left (by simp; omega), List.getElem?_take, if_pos c1, Array.getD_eq_getD_getElem?]
                            simp
                          rw [e1, e2]
                          exact q4 i (by omega)
                        · have e1 : (cs ++ (List.replicate n zs).flatten).getD i .junk = ((List.replicate n zs).flatten).getD (i - len * sz') .junk := by
                            rw [List.getD_eq_getElem?_getD, List.getD_eq_getElem?_getD, List.getElem?_append_right (by omega), hcl]
                          have e2 : (arr.toList.take (len * sz') ++ (nc ++ arr.toList.drop (len * sz' + nc.length))).getD i undef = nc.getD (i - len * sz') undef := by
                            rw [List.getD_eq_getElem?_getD, List.getD_eq_getElem?_getD, List.getElem?_append_right (by simp; omega)]
                            have : (List.take (len * sz') arr.toList).length = len * sz' := by simp; omega
                            rw [this, List.getElem?_append_left (by omega)]
                          rw [e1, e2]
                          exact hnV.2 _ (by omega))
                      refine ⟨_, Pv, _, _, _, hexec (by rw [hsE]; exact hrun), .inl rfl, hFS.put hd (.inl ?_)⟩
                      refine .msl _ _ _ _ _ _ hρ' hfit (.inr ⟨_, if_pos rfl, ?_⟩)
                      rw [hasz']; omega
                    · -- in a new one
                      have hk1 := h.putH (ao' := .dead) (w' := w) hρ hb rfl (by simp) rfl (fun _ _ => rfl) (.refl w) trivial
                      have hold := firstM (P := P) (w := w.drew) (c := c') (off := 0) (len := len) (cap := cap) (sz := sz') (el := el') q1 (by omega)
                      have hoV : VRs S cs ((List.range (len * sz')).map fun i => arr.getD (0 + i) undef) := by
                        refine ⟨by simp [hcl], fun i hi => ?_⟩
                        have : i < len * sz' := by omega
                        rw [List.getD_eq_getElem?_getD (l := (List.range (len * sz')).map _)]
                        simp only [List.getElem?_map, List.getElem?_range this, Option.map_some, Option.getD_some, Nat.zero_add]
                        exact q4 i hi
                      generalize (List.range (len * sz')).map (fun i => arr.getD (0 + i) undef) = old at hold hoV
                      obtain ⟨newCap, rest, hle, hrest, hrun⟩ := appz_grow (P := P) (w := w) (ty := o.type) (t := t) (u := u) (sz := sz') (b := some ⟨c', 0, none⟩) hu hsz hu2 hie hzv hzl (by omega) hnb hnn0 hroom2 hold (by omega)
                      have hncA : Builtin.zeroCells zv.cells n = nc.toArray := by rw [← hnc]
                      rw [hncA] at hrun
                      have hol : old.length = len * sz' := by rw [hoV.1, hcl]
                      have hsize : (old.toArray ++ nc.toArray ++ rest).size = newCap * sz' := by
                        simp [hol, hncl, hrest]
                        rw [← Nat.add_mul, ← Nat.add_mul]
                        congr 1; omega
                      have hVV : VRs S (cs ++ (List.replicate n zs).flatten) (old ++ nc) := hoV.append hnV
                      have hcsl : (cs ++ (List.replicate n zs).flatten).length = (len + n) * sz' := by simp only [List.length_append, hcl, hnl, Nat.add_mul]
                      have hmul : (len + n) * sz' ≤ newCap * sz' := Nat.mul_le_mul_right _ hle
                      have hwd : w.drew.heap.size = w.heap.size := rfl
                      obtain ⟨hFS, hρ', hSle⟩ := hk1.drew.new (ao := .cells (cs ++ (List.replicate n zs).flatten)) (ob := .cells (old.toArray ++ nc.toArray ++ rest) el (0, 0)) (a := some (old.toArray ++ nc.toArray ++ rest).size) (by simp) rfl (by
                        refine ⟨_, el, heap_alloc_at w.drew _, by omega, fun a ha => by simpa [Gh.bind] using ha.symm, fun i hi => ?_⟩
                        have hi2 : i < old.length + nc.length := by
                          have := hVV.1; rw [List.length_append] at this; omega
                        have e1 : (old.toArray ++ nc.toArray ++ rest).getD i undef = (old ++ nc).getD i undef := by
                          rw [Array.getD_eq_getD_getElem?, List.getD_eq_getElem?_getD, Array.getElem?_append_left (by simp; omega)]
                          simp
                        rw [e1]
                        exact (hVV.2 i hi).mono (Gh.le_bind (hk1.wr.fresh _ (Nat.le_refl _)).1 (hk1.wr.fresh _ (Nat.le_refl _)).2.2.1))
                      have hnH : (H.put b .dead).n = H.n := rfl
                      rw [hwd, hnH] at hFS hρ' hSle
                      refine ⟨_, Pv, _, _, _, hexec (by rw [hsE]; exact hrun), .inl rfl, hFS.put hd (.inl ?_)⟩
                      refine .msl _ _ _ _ _ _ hρ' hle (.inr ⟨_, if_pos rfl, ?_⟩)
                      omega
                  · cases hs
                · cases hs
              · cases hs
            · cases hby'
          · cases h2
        · cases hu2'
      · cases h2
    · cases h1
  · cases hc
end
end Av
end

section
/- Entries of maps of memory; all of an array as a slice. -/
namespace Av
open Go

theorem findk_findi (n : Nat) (k : AV) : ∀ (es : List (AV × AV)), findk n k es = match findi n k es with
    | some (some j) => some (some (es.getD j (.junk, .junk)).2)
    | some none => some none
    | none => none
  | [] => rfl
  | (k', v') :: es => by
    unfold findk findi
    cases eqk (some n) k k' with
    | none => rfl
    | some b =>
      cases b with
      | true => rfl
      | false =>
        simp only
        rw [findk_findi n k es]
        cases findi n k es with
        | none => rfl
        | some r => cases r <;> rfl

section
variable {P : Program} {chk : Nat → List Nat → Code → ACode → Bool} {p : AProg} {N : Nat} {B D : List Nat} {S0 : Gh} {H0 : H} {w0 : World} {S : Gh} {H : H} {Pv : Nat → Option Nat} {e : Env} {tmps : Array Value} {w : World} {o : Oper} {v : AV}

theorem findi_run (hw : WR chk p.glob S H w) (hf : FR N B S Pv e tmps w) {kt n : Nat} (hk : keyT P kt n = true) {k : AV} {u : Value} (hU : VR S k u) : ∀ (es : List (AV × AV)) (ents : List MapEntry) (i : Nat) (r : Option Nat), ents.length = es.length →
    (∀ j, j < es.length → VR S (es.getD j (.junk, .junk)).1 (ents.getD j default).key ∧ VR S (es.getD j (.junk, .junk)).2 (ents.getD j default).val) → findi n k es = some r →
    ∃ q, (Instr.findAsking kt u ents i).run P w = .ok q w ∧
      ((q = none ∧ r = none) ∨ ∃ j, r = some j ∧ q = some (i + j, (ents.getD j default).val) ∧ j < es.length ∧ Instr.sameBits 10000 (ents.getD j default).key u = true)
  | [], ents, i, r, hl, _, h => by
    have : ents = [] := List.length_eq_zero_iff.1 hl
    subst this
    simp [findi] at h; subst h
    exact ⟨none, rfl, .inl ⟨rfl, rfl⟩⟩
  | (k', v') :: es, ents, i, r, hl, hE, h => by
    cases ents with
    | nil => simp at hl
    | cons en ents =>
      have hk' := hk
      simp only [keyT, Bool.and_eq_true] at hk'
      have h0 := hE 0 (by simp)
      simp at h0
      unfold findi at h
      split at h
      · rename_i heq
        cases h
        obtain ⟨he, _⟩ := equal_run (P := P) (w := w) hk'.1 hU h0.1 heq
        refine ⟨some (i, en.val), by simp [Instr.findAsking, he], .inr ⟨0, rfl, rfl, by simp, ?_⟩⟩
        simp only [List.getD_cons_zero]
        exact eqk_same hU h0.1 heq
      · rename_i heq
        obtain ⟨he, _⟩ := equal_run (P := P) (w := w) hk'.1 hU h0.1 heq
        have key : ∀ r', findi n k es = some r' → ∃ q, (Instr.findAsking kt u (en :: ents) i).run P w = .ok q w ∧ ((q = none ∧ r' = none) ∨ ∃ j, r' = some j ∧ q = some (i + (j + 1), (ents.getD j default).val) ∧ j < es.length ∧ Instr.sameBits 10000 (ents.getD j default).key u = true) := by
          intro r' hr'
          obtain ⟨q, hq, hr⟩ := findi_run hw hf hk hU es ents (i + 1) r' (by simpa using hl) (fun j hj => by have := hE (j + 1) (by simpa using hj); simpa using this) hr'
          refine ⟨q, by simp [Instr.findAsking, he, hq], ?_⟩
          rcases hr with ⟨rfl, rfl⟩ | ⟨j, rfl, rfl, hj, hsb⟩
          · exact .inl ⟨rfl, rfl⟩
          · exact .inr ⟨j, rfl, by congr 2; omega, hj, hsb⟩
        split at h
        · rename_i j hj
          cases h
          obtain ⟨q, hq, hr⟩ := key _ hj
          refine ⟨q, hq, ?_⟩
          rcases hr with ⟨_, hr⟩ | ⟨j', hr, rfl, hj', hsb⟩
          · cases hr
          · cases hr
            exact .inr ⟨j + 1, rfl, by simp, by simpa using hj', by simpa using hsb⟩
        · rename_i hj
          cases h
          obtain ⟨q, hq, hr⟩ := key _ hj
          refine ⟨q, hq, ?_⟩
          rcases hr with ⟨rfl, _⟩ | ⟨j', hr, _⟩
          · exact .inl ⟨rfl, rfl⟩
          · cases hr
        · cases h
      · cases h

theorem findKey_of {kt n : Nat} (hk : keyT P kt n = true) {u : Value} {ents : List MapEntry} {q : Option (Nat × Value)} (hq : (Instr.findAsking kt u ents 0).run P w = .ok q w) : (Instr.findKey kt u ents).run P w = .ok q w := by
  have hk' := hk
  simp only [keyT, Bool.and_eq_true] at hk'
  obtain ⟨_, h2'⟩ := hk'
  split at h2'
  · rename_i fs hu'
    unfold Instr.findKey
    rw [Sem.run_bind, run_underlying hu']
    simp only [Result.andThen_ok]
    cases ents with
    | nil => simp [Instr.findAsking] at hq; subst hq; simp [Instr.findNow]
    | cons en el => rw [findNow_str]; exact hq
  · cases h2'

/-- a map of memory, and a key that is looked for -/
theorem mp_look (hw : WR chk p.glob S H w) (hf : FR N B S Pv e tmps w) {kt n b : Nat} (hk : keyT P kt n = true) {kv : AV} {mval kval : Value} (hM : VR S (.mp b) mval) (hK : VR S kv kval) (hkl : keyLen n kv = true) {es : List (AV × AV)} (hb : H.get b = some (.mp es)) :
    ∃ c ents, S.ρ b = some c ∧ mval = .map (some c) ∧ w.heap[c]? = some (.map ents ents.size) ∧ ER S es ents ∧ BornOK ents ents.size ∧ (∀ b, (Instr.checkKey b 10000 kt kval).run P w = .ok () w) ∧
      ∀ r, findi n kv es = some r → ∃ q, (Instr.findKey kt kval ents.toList).run P w = .ok q w ∧
        ((q = none ∧ r = none) ∨ ∃ j, r = some j ∧ q = some (j, (ents.getD j default).val) ∧ j < es.length ∧ Instr.sameBits 10000 (ents.getD j default).key kval = true) := by
  obtain ⟨c, hρ, hE⟩ : ∃ c, S.ρ b = some c ∧ mval = .map (some c) := by cases hM with | mp _ c hh => exact ⟨c, hh, rfl⟩
  obtain ⟨_, ao, hg, hOR⟩ := hw.dom b c hρ
  rw [hb] at hg; cases hg
  obtain ⟨ents, clock, hheap, hER, hclk, hbrn⟩ := hOR
  subst hclk
  obtain ⟨us, hus, husn⟩ : ∃ us, kval = .agg us ∧ us.size = n := by
    unfold keyLen at hkl
    split at hkl
    · rename_i xs
      obtain ⟨us, h5, h6⟩ := hK.agg_inv
      exact ⟨us, h5, by have := h6.1; simp at this hkl; omega⟩
    · cases hkl
  refine ⟨c, ents, hρ, hE, hheap, hER, ⟨rfl, hbrn⟩, fun b => by rw [hus]; exact key_check hk husn, fun r hr => ?_⟩
  obtain ⟨q, hq, hr⟩ := findi_run (P := P) hw hf hk hK es ents.toList 0 r (by rw [Array.length_toList]; exact hER.1) (fun j hj => by
    have := hER.2 j hj; simpa [Array.getD_eq_getD_getElem?, List.getD_eq_getElem?_getD] using this) hr
  refine ⟨q, findKey_of hk hq, ?_⟩
  rcases hr with h1 | ⟨j, h1, h2, h3, h4⟩
  · exact .inl h1
  · refine .inr ⟨j, h1, ?_, h3, ?_⟩
    · rw [h2]; simp [Array.getD_eq_getD_getElem?, List.getD_eq_getElem?_getD]
    · simpa [Array.getD_eq_getD_getElem?, List.getD_eq_getElem?_getD] using h4

variable (h : FS chk p.glob N B D S0 H0 w0 S H Pv e tmps w) (hd : ∀ k, o.dst = some k → k < N ∧ k ∉ B)
include h hd

theorem h_lookup {n z m k H'} (hc : chkH P N o (.lookup n z m k) = true) (hs : stepH p e H (.lookup n z m k) = some (v, H')) : Step1 P chk p.glob N B D S0 H0 w0 o tmps w (e.dst o.dst v) H' := by
  simp only [chkH] at hc
  split at hc
  · rename_i t m' k' ho
    simp only [Bool.and_eq_true] at hc
    obtain ⟨⟨h1, h2⟩, h3⟩ := hc
    split at h3
    · rename_i kt et hu
      simp only [Bool.and_eq_true] at h3
      obtain ⟨h3, h4⟩ := h3
      split at h4
      · rename_i ie hie
        split at h4
        · rename_i zv hz
          simp only [Bool.and_eq_true] at h4
          simp only [stepH] at hs
          split at hs
          · rename_i b kv hm hkv
            split at hs
            · cases hs
            · rename_i hkl
              split at hs
              · rename_i es hb
                obtain ⟨c, ents, hρ, hE, hheap, hER, hB, hkey, hfind⟩ := mp_look h.wr h.fr h3 (ev_ok h.wr h.fr h1 hm) (ev_ok h.wr h.fr h2 hkv) (by simpa using hkl) hb
                have hget : (getObj c).run P w = .ok (.map ents ents.size) w := by simp [getObj, Sem.run, hheap]
                rw [findk_findi] at hs
                cases hfi : findi n kv es with
                | none => rw [hfi] at hs; cases hs
                | some r =>
                  rw [hfi] at hs
                  obtain ⟨q, hq, hr⟩ := hfind r hfi
                  rcases hr with ⟨rfl, rfl⟩ | ⟨j, rfl, rfl, hj, _⟩
                  · cases hs
                    refine ⟨S, Pv, w, _, zv, ?_, .inl rfl, h.put hd (.inl (cmatch_ok h4.1))⟩
                    simp [execOp, ho, hE, Instr.lookup, run_underlying hu, hget, hkey, hq, zeroValue, run_typeInfo w hie, hz]
                  · cases hs
                    refine ⟨S, Pv, w, _, (ents.getD j default).val, ?_, .inl rfl, h.put hd (.inl (hER.2 j hj).2)⟩
                    simp [execOp, ho, hE, Instr.lookup, run_underlying hu, hget, hkey, hq]
              · cases hs
          · cases hs
        · cases h4
      · cases h4
    · cases h3
  · cases hc

theorem h_lookup2 {n z m k H'} (hc : chkH P N o (.lookup2 n z m k) = true) (hs : stepH p e H (.lookup2 n z m k) = some (v, H')) : Step1 P chk p.glob N B D S0 H0 w0 o tmps w (e.dst o.dst v) H' := by
  simp only [chkH] at hc
  split at hc
  · rename_i t m' k' ho
    simp only [Bool.and_eq_true] at hc
    obtain ⟨⟨h1, h2⟩, h3⟩ := hc
    split at h3
    · rename_i kt et hu
      simp only [Bool.and_eq_true] at h3
      obtain ⟨h3, h4⟩ := h3
      split at h4
      · rename_i ie hie
        split at h4
        · rename_i zv hz
          simp only [Bool.and_eq_true] at h4
          simp only [stepH] at hs
          split at hs
          · rename_i b kv hm hkv
            split at hs
            · cases hs
            · rename_i hkl
              split at hs
              · rename_i es hb
                obtain ⟨c, ents, hρ, hE, hheap, hER, hB, hkey, hfind⟩ := mp_look h.wr h.fr h3 (ev_ok h.wr h.fr h1 hm) (ev_ok h.wr h.fr h2 hkv) (by simpa using hkl) hb
                have hget : (getObj c).run P w = .ok (.map ents ents.size) w := by simp [getObj, Sem.run, hheap]
                rw [findk_findi] at hs
                cases hfi : findi n kv es with
                | none => rw [hfi] at hs; cases hs
                | some r =>
                  rw [hfi] at hs
                  obtain ⟨q, hq, hr⟩ := hfind r hfi
                  rcases hr with ⟨rfl, rfl⟩ | ⟨j, rfl, rfl, hj, _⟩
                  · cases hs
                    refine ⟨S, Pv, w, _, .tuple #[zv, .bool false], ?_, .inl rfl, h.put hd (.inl ?_)⟩
                    · simp [execOp, ho, hE, Instr.lookup, run_underlying hu, hget, hkey, hq, zeroValue, run_typeInfo w hie, hz]
                    · have := VR.tup' (VRs.cons (cmatch_ok (S := S) h4.1) (.cons (.bool false) .nil)); simpa using this
                  · cases hs
                    refine ⟨S, Pv, w, _, .tuple #[(ents.getD j default).val, .bool true], ?_, .inl rfl, h.put hd (.inl ?_)⟩
                    · simp [execOp, ho, hE, Instr.lookup, run_underlying hu, hget, hkey, hq]
                    · have := VR.tup' (VRs.cons (hER.2 j hj).2 (.cons (.bool true) .nil)); simpa using this
              · cases hs
          · cases hs
        · cases h4
      · cases h4
    · cases h3
  · cases hc

theorem h_mapent {n z m k H'} (hc : chkH P N o (.mapent n z m k) = true) (hs : stepH p e H (.mapent n z m k) = some (v, H')) : Step1 P chk p.glob N B D S0 H0 w0 o tmps w (e.dst o.dst v) H' := by
  simp only [chkH] at hc
  split at hc
  · rename_i t m' k' ho
    simp only [Bool.and_eq_true] at hc
    obtain ⟨⟨h1, h2⟩, h3⟩ := hc
    split at h3
    · rename_i kt et hu
      simp only [Bool.and_eq_true] at h3
      obtain ⟨h3, h4⟩ := h3
      split at h4
      · rename_i ie hie
        split at h4
        · rename_i zv hz
          simp only [Bool.and_eq_true] at h4
          simp only [stepH] at hs
          split at hs
          · rename_i b kv hm hkv
            split at hs
            · cases hs
            · rename_i hkl
              split at hs
              · rename_i es hb
                have hKv := ev_ok h.wr h.fr h2 hkv
                obtain ⟨c, ents, hρ, hE, hheap, hER, hB, hkey, hfind⟩ := mp_look h.wr h.fr h3 (ev_ok h.wr h.fr h1 hm) hKv (by simpa using hkl) hb
                have hget : (getObj c).run P w = .ok (.map ents ents.size) w := by simp [getObj, Sem.run, hheap]
                have hset' : ∀ ob, (setObj c ob).run P w = .ok () { w with heap := w.heap.setIfInBounds c ob } := fun ob => by simp [setObj, Sem.run, hheap]
                have hlt : c < w.heap.size := (Array.getElem?_eq_some_iff.1 hheap).1
                have hsz := hER.1
                have fin : ∀ (es' : List (AV × AV)) (ents' : Array MapEntry) (clock' : Nat) (v' : AV) (u' : Value), ER S es' ents' → BornOK ents' clock' → VR S v' u' → (Instr.mapEntry t (evalT tmps m') (evalT tmps k')).run P w = .ok u' { w with heap := w.heap.setIfInBounds c (.map ents' clock') } →
                    Step1 P chk p.glob N B D S0 H0 w0 o tmps w (e.dst o.dst v') (H.put b (.mp es')) := by
                  intro es' ents' clock' v' u' hER' hB' hV' hrun
                  have hFS := h.putH (ao' := .mp es') hρ hb rfl (by simp) (w' := { w with heap := w.heap.setIfInBounds c (.map ents' clock') }) (by simp) (fun c' hc' => by simp [Array.getElem?_setIfInBounds_ne (Ne.symm hc')]) (.obj w hheap trivial trivial)
                    ⟨ents', clock', by simp [hlt], hER', hB'⟩
                  refine ⟨S, Pv, _, .value u', u', ?_, .inl rfl, hFS.put hd (.inl hV')⟩
                  simp only [execOp, ho, Sem.run_bind, hrun]; rfl
                cases hfi : findi n kv es with
                | none => rw [hfi] at hs; cases hs
                | some r =>
                  rw [hfi] at hs
                  obtain ⟨q, hq, hr⟩ := hfind r hfi
                  rcases hr with ⟨rfl, rfl⟩ | ⟨j, rfl, rfl, hj, hsb⟩
                  · simp only at hs
                    split at hs
                    · rename_i hlen
                      cases hs
                      refine fin _ (ents.push { key := evalT tmps k', val := zv, born := ents.size }) (ents.size + 1) _ (.tuple #[zv, goInt ents.size]) ⟨by simp [hsz], fun i hi => ?_⟩ (born_push rfl hB.2) ?_ ?_
                      · by_cases hil : i < es.length
                        · have := hER.2 i hil
                          simpa [List.getD_eq_getElem?_getD, Array.getD_eq_getD_getElem?, List.getElem?_append_left hil, Array.getElem?_push, show i ≠ ents.size by omega] using this
                        · have : i = es.length := by simp at hi; omega
                          subst this
                          simp [List.getD_eq_getElem?_getD, Array.getD_eq_getD_getElem?, ← hsz]
                          exact ⟨hKv, cmatch_ok h4.1⟩
                      · have := VR.tup' (VRs.cons (cmatch_ok (S := S) h4.1) (.cons (.int .i64 es.length) .nil))
                        rw [← hsz] at this ⊢
                        simpa [goInt] using this
                      · simp [Instr.mapEntry, run_underlying hu, hE, hget, hkey, hq, hset', zeroValue, run_typeInfo w hie, hz]
                    · cases hs
                  · simp only at hs
                    split at hs
                    · rename_i q' hq'
                      cases hs
                      have hget2 : (es.getD j (.junk, .junk)) = q' := by rw [List.getD_eq_getElem?_getD, hq']; rfl
                      have hERj := hER.2 j hj
                      rw [hget2] at hERj
                      have hjs : j < ents.size := by omega
                      have hbj : (ents[j]).born = j := by have := hB.2 j hjs; simpa [Array.getD_eq_getD_getElem?, hjs] using this
                      refine fin _ (ents.modify j fun en => { en with key := evalT tmps k' }) ents.size _ (.tuple #[(ents.getD j default).val, goInt j]) ⟨by simp [hsz], fun i hi => ?_⟩ (born_mod rfl hB.2 _ fun _ => rfl) ?_ ?_
                      · simp at hi
                        by_cases hij : i = j
                        · subst hij
                          simp [List.getD_eq_getElem?_getD, Array.getD_eq_getD_getElem?, hj, hsz, Array.getElem_modify] at hERj ⊢
                          exact ⟨hKv, hERj.2⟩
                        · have := hER.2 i hi
                          simpa [List.getD_eq_getElem?_getD, Array.getD_eq_getD_getElem?, List.getElem?_set_ne (Ne.symm hij), Array.getElem?_modify, Ne.symm hij] using this
                      · have := VR.tup' (VRs.cons hERj.2 (.cons (.int .i64 j) .nil))
                        simpa [goInt] using this
                      · have hold : ents[j]? = some (ents.getD j default) := by
                          simp [Array.getD_eq_getD_getElem?, hjs]
                        have hkeep : (Instr.keyThatStays (ents.getD j default).key (evalT tmps k')).run P w = .ok (evalT tmps k') w := by
                          unfold Instr.keyThatStays; rw [if_pos hsb]; rfl
                        have hb2 : (ents.getD j default).born = j := hB.2 j hjs
                        simp only [Instr.mapEntry, Sem.run_bind, run_underlying hu, Result.andThen_ok, hE, hget, hkey, hq, hold, Option.map_some, Option.getD_some, hkeep, hset', hb2]
                        rfl
                    · cases hs
              · cases hs
          · cases hs
        · cases h4
      · cases h4
    · cases h3
  · cases hc

theorem h_entst {m i x H'} (hn : o.dst = none) (hc : chkH P N o (.entst m i x) = true) (hs : stepH p e H (.entst m i x) = some (v, H')) : Step1 P chk p.glob N B D S0 H0 w0 o tmps w (e.dst o.dst v) H' := by
  simp only [chkH] at hc
  split at hc
  · rename_i t m' i' x' ho
    simp only [Bool.and_eq_true] at hc
    obtain ⟨⟨h1, h2⟩, h3⟩ := hc
    simp only [stepH] at hs
    split at hs
    · rename_i b iv xv hm hiv hxv
      split at hs
      · cases hs
      · rename_i hcond
        split at hs
        · rename_i es hb
          split at hs
          · rename_i q' hq'
            cases hs
            have hM := ev_ok h.wr h.fr h1 hm
            have hI := (ev_ok h.wr h.fr h2 hiv).int_inv
            have hX := ev_ok h.wr h.fr h3 hxv
            obtain ⟨c, hρ, hE⟩ : ∃ c, S.ρ b = some c ∧ evalT tmps m' = .map (some c) := by
              generalize evalT tmps m' = mv at hM
              cases hM with | mp _ c hh => exact ⟨c, hh, rfl⟩
            obtain ⟨_, ao, hg, hOR⟩ := h.wr.dom b c hρ
            rw [hb] at hg; cases hg
            obtain ⟨ents, clock, hheap, ⟨hsz, hER⟩, hclk, hbrn⟩ := hOR
            have hget : (getObj c).run P w = .ok (.map ents clock) w := by simp [getObj, Sem.run, hheap]
            have hset' : ∀ ob, (setObj c ob).run P w = .ok () { w with heap := w.heap.setIfInBounds c ob } := fun ob => by simp [setObj, Sem.run, hheap]
            have hlt : c < w.heap.size := (Array.getElem?_eq_some_iff.1 hheap).1
            have hj : iv.toNat < es.length := (List.getElem?_eq_some_iff.1 hq').1
            have hi0 : 0 ≤ iv := by
              rcases Int.lt_or_le iv 0 with q | q
              · exact absurd (.inl q) hcond
              · exact q
            obtain ⟨j, rfl⟩ : ∃ j : Nat, iv = j := Int.eq_ofNat_of_zero_le hi0
            simp only [Int.toNat_natCast] at hj hq' ⊢
            have hjs : j < ents.size := by omega
            have hfi : ents.findIdx? (fun en => (en.born : Int) == (j : Int)) = some j := by
              rw [Array.findIdx?_eq_some_iff_getElem]
              refine ⟨hjs, ?_, fun k hk => ?_⟩
              · have := hbrn j hjs
                simp [Array.getD_eq_getD_getElem?, hjs] at this
                simp [this]
              · have := hbrn k (by omega)
                simp [Array.getD_eq_getD_getElem?, show k < ents.size by omega] at this
                simp [this]; omega
            have hrun : (Instr.entryStore t (evalT tmps m') (evalT tmps i') (evalT tmps x')).run P w = .ok () { w with heap := w.heap.setIfInBounds c (.map (ents.modify j fun en => { en with val := evalT tmps x' }) clock) } := by
              simp [Instr.entryStore, hE, hget, hI, asInt, asIntOf, hfi, hset']
            have hget2 : (es.getD j (.junk, .junk)) = q' := by rw [List.getD_eq_getElem?_getD, hq']; rfl
            have hFS := h.putH (ao' := .mp (es.set j (q'.1, xv))) hρ hb rfl (by simp) (w' := { w with heap := w.heap.setIfInBounds c (.map (ents.modify j fun en => { en with val := evalT tmps x' }) clock) }) (by simp) (fun c' hc' => by simp [Array.getElem?_setIfInBounds_ne (Ne.symm hc')]) (.obj w hheap trivial trivial)
              ⟨ents.modify j fun en => { en with val := evalT tmps x' }, clock, by simp [hlt], ⟨by simp [hsz], fun i hi => by
                simp at hi
                by_cases hij : i = j
                · subst hij
                  have := hER i hi
                  rw [hget2] at this
                  simp [List.getD_eq_getElem?_getD, Array.getD_eq_getD_getElem?, hj, hsz, Array.getElem_modify] at this ⊢
                  exact ⟨this.1, hX⟩
                · have := hER i hi
                  simpa [List.getD_eq_getElem?_getD, Array.getD_eq_getD_getElem?, List.getElem?_set_ne (Ne.symm hij), Array.getElem?_modify, Ne.symm hij] using this⟩, born_mod hclk hbrn j fun _ => rfl⟩
            refine ⟨S, Pv, _, .skip, undef, ?_, .inr ⟨rfl, rfl⟩, by rw [hn]; exact hFS⟩
            simp only [execOp, ho, Sem.run_bind, hrun]; rfl
          · cases hs
        · cases hs
    · cases hs
  · cases hc
end

section
variable {P : Program} {chk : Nat → List Nat → Code → ACode → Bool} {p : AProg} {N : Nat} {B : List Nat} {S : Gh} {H : H} {Pv : Nat → Option Nat} {e : Env} {tmps : Array Value} {w : World} {o : Oper} {v : AV} {wr : Option (Nat × AV)}
theorem p_slicL (hw : WR chk p.glob S H w) (hf : FR N B S Pv e tmps w) {s n sz a} (hc : chkP P N B o (.slicL s n sz a) = true) (hs : stepP p e (.slicL s n sz a) = some (v, wr)) : PG P w N S e tmps o v wr := by
  simp only [chkP] at hc
  split at hc
  · rename_i t k ho
    simp only [Bool.and_eq_true, decide_eq_true_eq] at hc
    obtain ⟨⟨⟨⟨h1, h2⟩, h3⟩, h4⟩, h5⟩ := hc
    split at h5
    · rename_i j
      have hkj : k = j := by simpa using h5
      subst hkj
      obtain ⟨et, het⟩ := Option.isSome_iff_exists.1 h1
      obtain ⟨hu, hsz⟩ : P.underlying t = some (.array n et) ∧ szOf P et sz = true := by
        unfold arrT at het
        split at het
        · rename_i l' e' hu'
          split at het
          · rename_i hc'
            cases het
            obtain ⟨rfl, h6⟩ := hc'
            exact ⟨hu', h6⟩
          · cases het
        · cases het
      simp only [stepP] at hs
      split at hs
      · rename_i g cs he
        split at hs
        · rename_i off hoff
          split at hs
          · rename_i hcond
            obtain ⟨hl, hfl⟩ := hcond
            cases hs
            obtain ⟨hV, c, hcs⟩ := hf.fb s g cs h2 he
            have hk := lofs_ok hw hf h2 h4 (.inr he) (a := some (.t k)) (by simpa using h5) hoff hcs
            rw [hcs] at hV
            obtain ⟨us, hG, hVs⟩ : ∃ us : Nat → Value, (∀ i, i < cs.length → S.G c (0 + i) = some (us i)) ∧ ∀ i, i < cs.length → VR S (cs.getD i .junk) (us i) := by
              cases hV with
              | cptr _ _ _ us h6 h7 => exact ⟨us, h6, h7⟩
            have hfl' : ∀ x ∈ cs.drop off, x.flat = true := fun x hx => List.all_eq_true.1 hfl x (List.mem_of_mem_drop hx)
            have hlen : n * sz ≤ (cs.drop off).length := by simp; omega
            refine ⟨rfl, .slice (some ⟨c, off, none⟩) n n, ?_, .inl ?_⟩
            · simp only [execOp, ho, evalT_tmp, hk, Instr.sliceAt, Sem.run_bind, run_underlying hu, Result.andThen_ok, Instr.sureAddr, Sem.run_pure, Instr.sliceBounds, sz_run hsz, Option.map_none]
              by_cases hn0 : n = 0
              · simp [hn0]
              · simp [hn0, add_mk]
            · refine .sl _ .shut c off n n sz (fun i => us (off + i)) (chunk_length n _) (chunk_cells n _ hlen hfl') (fun i hi => ?_) (fun i j hi hj => ?_) (Nat.le_refl _)
              · have := hG (off + i) (by omega)
                rw [Nat.zero_add] at this; exact this
              · have hij : i * sz + j < n * sz := by
                  have : (i + 1) * sz ≤ n * sz := Nat.mul_le_mul_right _ hi
                  rw [Nat.add_mul] at this; omega
                rw [chunk_flat n _ hlen hfl' i j hi hj]
                have e1 : (cs.drop off).getD (i * sz + j) .junk = cs.getD (off + (i * sz + j)) .junk := by simp [List.getD_eq_getElem?_getD]
                rw [e1]
                exact hVs _ (by omega)
          · cases hs
        · cases hs
      · cases hs
    · cases h5
  · cases hc
end
end Av
end

section
/- One operation at a time, callees at a fixed fuel. -/
namespace Av
variable (p : AProg)

def insx (n : Nat) (i : Ins) (d : Option Nat) (e : Env) (h : H) : Option (Env × H) := match i with
  | .p i => match stepP p e i with
    | some (v, none) => some (e.dst d v, h)
    | some (v, some (s, w)) => some ((e.set s w).dst d v, h)
    | none => none
  | .h i => match stepH p e h i with
    | some (v, h) => some (e.dst d v, h)
    | none => none
  | .call f args => match ev p e f, evs p e args with
    | some f, some vs => match callx p n f vs h with
      | some (v, h) => some (e.dst d v, h)
      | none => none
    | _, _ => none
  | .calli f args => match ev p e f, evs p e args with
    | some f, some vs => if f.clean && cleans (vs.map AV.shutv) then
        match callx p n f (vs.map AV.shutv) H.emp with
        | some (v, h') => if (frz3 h' v).clean then some (e.dst d (frz3 h' v), h) else none
        | none => none
      else none
    | _, _ => none
  | .callf _ _ => none
def op1 (n : Nat) (o : GIns) (e : Env) (h : H) : Option (Env × H) := match wantedA e o.guard with
  | some false => some (e.dst o.dst (.tup []), h)
  | some true => insx p n o.ins o.dst e h
  | none => none
def opsL (n : Nat) : List GIns → Env → H → Option (Env × H)
  | [], e, h => some (e, h)
  | o :: os, e, h => match op1 p n o e h with
    | some (e, h) => opsL n os e h
    | none => none
def noCf (o : GIns) : Bool := match o.ins with | .callf .. => false | _ => true

theorem insx_mono {n m : Nat} (hnm : n ≤ m) {i d e h r} (hh : insx p n i d e h = some r) : insx p m i d e h = some r := by
  cases i with
  | p i => exact hh
  | h i => exact hh
  | call f args =>
    simp only [insx] at hh ⊢
    split at hh
    · rename_i fv vs hf hv
      split at hh
      · rename_i v h1 hx; rw [callx_mono p hnm hx]; exact hh
      · cases hh
    · cases hh
  | calli f args =>
    simp only [insx] at hh ⊢
    split at hh
    · rename_i fv vs hf hv
      split at hh
      · rename_i hc
        rw [if_pos hc]
        split at hh
        · rename_i v h1 hx; rw [callx_mono p hnm hx]; exact hh
        · cases hh
      · cases hh
    · cases hh
  | callf f args => cases hh
theorem op1_mono {n m : Nat} (hnm : n ≤ m) {o e h r} (hh : op1 p n o e h = some r) : op1 p m o e h = some r := by
  unfold op1 at hh ⊢
  split at hh
  · exact hh
  · exact insx_mono p hnm hh
  · cases hh
theorem opsL_mono {n m : Nat} (hnm : n ≤ m) : ∀ {os e h r}, opsL p n os e h = some r → opsL p m os e h = some r
  | [], e, h, r, hh => hh
  | o :: os, e, h, r, hh => by
    unfold opsL at hh ⊢
    split at hh
    · rename_i e1 h1 hx; rw [op1_mono p hnm hx]; exact opsL_mono hnm hh
    · cases hh

theorem opsx_opsL : ∀ (n : Nat) (os : List GIns) (e : Env) (h : H) (r), os.all noCf = true → opsx p (n + 1) os e h = some r → opsL p n os e h = some r
  | n, [], e, h, r, _, hh => by rw [opsx] at hh; exact hh
  | 0, o :: os, e, h, r, _, hh => by
    rw [opsx] at hh
    exfalso
    have z : ∀ (os : List GIns) e h, opsx p 0 os e h = none := fun _ _ _ => by rw [opsx]
    have zc : ∀ f vs h, callx p 0 f vs h = none := fun _ _ _ => by rw [callx]
    simp only [z, zc] at hh
    split at hh
    · cases hh
    · split at hh <;> (try split at hh) <;> (try split at hh) <;> first | (cases hh; done) | (simp at hh; done)
    · cases hh
  | n + 1, o :: os, e, h, r, hc, hh => by
    simp only [List.all_cons, Bool.and_eq_true] at hc
    have ih := fun e h r => opsx_opsL n os e h r hc.2
    have up : ∀ e h, opsx p (n + 1) os e h = some r → opsL p (n + 1) os e h = some r := fun e h q => opsL_mono p (Nat.le_succ n) (ih e h r q)
    rw [opsx] at hh
    unfold opsL op1
    split at hh
    · rename_i hw; rw [hw]; exact up _ _ hh
    · rename_i hw
      rw [hw]
      cases hi : o.ins with
      | p i =>
        rw [hi] at hh; simp only [insx] at hh ⊢
        split at hh
        · rename_i v hs; rw [hs]; exact up _ _ hh
        · rename_i v s w hs; rw [hs]; exact up _ _ hh
        · cases hh
      | h i =>
        rw [hi] at hh; simp only [insx] at hh ⊢
        split at hh
        · rename_i v h1 hs; rw [hs]; exact up _ _ hh
        · cases hh
      | call f args =>
        rw [hi] at hh; simp only [insx] at hh ⊢
        split at hh
        · rename_i fv vs hf hv
          split at hh
          · rename_i v h1 hx; simp only [hf, hv, hx]; exact up _ _ hh
          · cases hh
        · cases hh
      | calli f args =>
        rw [hi] at hh; simp only [insx] at hh ⊢
        split at hh
        · rename_i fv vs hf hv
          split at hh
          · rename_i hcl
            split at hh
            · rename_i v h1 hx
              split at hh
              · rename_i hq
                simp only [hf, hv]
                rw [if_pos hcl]
                simp only [hx, hq, if_true]; exact up _ _ hh
              · cases hh
            · cases hh
          · cases hh
        · cases hh
      | callf f args => simp [noCf, hi] at hc
    · cases hh
end Av
end

section
/- One operation, as steps of the machine. -/
namespace Av
open Go

/-- where a call's run begins -/
def startOf (P : Program) (r : Next) (w : World) (c : Frame) (cs : List Frame) : Option Machine := match r with
  | .enter f as => some (lone (Frame.enter P f as .normal) (c :: cs) w)
  | .round l f tmps assign body => some (lone (Frame.round l f tmps assign body .normal) (c :: cs) w)
  | _ => none

def invk (f : Value) (args : Array Value) : Sem Next := do let d ← Deferred.ofValue f args; invoke d.target d.args

/-- a call's answer -/
def CallOK (P : Program) (chk : Nat → List Nat → Code → ACode → Bool) (gl : Nat → List AV) (fv : Value) (args : Array Value) (S : Gh) (H : H) (w : World) (v : AV) (H' : Av.H) : Prop :=
  ∃ r w1, (invk fv args).run P w = .ok r w1 ∧ ∀ c cs, ∃ m0, startOf P r w1 c cs = some m0 ∧ ∃ u w' S', Steps P m0 (lone (c.finish u) cs w') ∧ WR chk gl S' H' w' ∧ VR S' v u ∧ Keep S H w S' H' w'

/-- all calls at a fuel -/
def Good (P : Program) (chk : Nat → List Nat → Code → ACode → Bool) (p : AProg) (n : Nat) : Prop :=
  ∀ f vs h v h', callx p n f vs h = some (v, h') → ∀ S w fv args, WR chk p.glob S h w → VR S f fv → VRs S vs args.toList → CallOK P chk p.glob fv args S h w v h'

section
variable {P : Program} {chk : Nat → List Nat → Code → ACode → Bool} {p : AProg} {N : Nat} {B D : List Nat} {S0 : Gh} {H0 : H} {w0 : World} {S : Gh} {H : H} {Pv : Nat → Option Nat} {e : Env} {tmps : Array Value} {w : World} {o : Oper} {v : AV}
variable {b : Frame} {ds : List Deferred} {k : List Item} {cs : List Frame} {ops : Array Oper} {i : Nat} {rest : List Nat}

theorem finish_put (ho : ops[i]? = some o) (u : Value) : (b.atR ⟨tmps, ds⟩ (.inRegion ops (i :: rest) :: k)).finish u = b.atR ⟨putT tmps o.dst u, ds⟩ (.inRegion ops rest :: k) := by
  rw [Frame.finish_atR, ho]
  cases hd : o.dst <;> simp [Act.put, putT, hd]

theorem evalT_eq : (⟨tmps, ds⟩ : Act).eval = evalT tmps := by
  funext x; cases x <;> rfl

theorem step_val (ho : ops[i]? = some o) (hw : Region.wanted o (yielded ops tmps) = true) (hnd : ∀ c, o.op ≠ .defer c) {r : Next} {u : Value} {w' : World} (hr : (execOp (evalT tmps) o).run P w = .ok r w')
    (hu : r = .value u ∨ (r = .skip ∧ u = undef)) :
    Steps P (lone (b.atR ⟨tmps, ds⟩ (.inRegion ops (i :: rest) :: k)) cs w) (lone (b.atR ⟨putT tmps o.dst u, ds⟩ (.inRegion ops rest :: k)) cs w') := by
  refine .one (step_lone_go ?_)
  rw [stepGR_op (P := P) (b := b) (a := ⟨tmps, ds⟩) (k := k) (cs := cs) (w := w) ho hw, Oper.semAt_eq _ _ _ hnd, ← finish_put ho u, evalT_eq]
  rcases hu with rfl | ⟨rfl, rfl⟩ <;> simp [stepG.apply, hr]

theorem step_call (ho : ops[i]? = some o) (hw : Region.wanted o (yielded ops tmps) = true) (hnd : ∀ c, o.op ≠ .defer c) {r : Next} {w' : World} (hr : (execOp (evalT tmps) o).run P w = .ok r w') {m0 : Machine}
    (hm : startOf P r w' (b.atR ⟨tmps, ds⟩ (.inRegion ops (i :: rest) :: k)) cs = some m0) : Steps P (lone (b.atR ⟨tmps, ds⟩ (.inRegion ops (i :: rest) :: k)) cs w) m0 := by
  unfold startOf at hm
  split at hm
  · cases hm
    refine .one (step_lone_go ?_)
    rw [stepGR_op (P := P) (b := b) (a := ⟨tmps, ds⟩) (k := k) (cs := cs) (w := w) ho hw, Oper.semAt_eq _ _ _ hnd, evalT_eq]
    simp [stepG.apply, hr, Frame.atR]
  · cases hm
    refine .one (step_lone_go ?_)
    rw [stepGR_op (P := P) (b := b) (a := ⟨tmps, ds⟩) (k := k) (cs := cs) (w := w) ho hw, Oper.semAt_eq _ _ _ hnd, evalT_eq]
    simp [stepG.apply, hr, Frame.atR]
  · cases hm

theorem chkCall_run {f : Opd} {args : List Opd} (hw : WR chk p.glob S H w) (hf : FR N B S Pv e tmps w) (hc : chkCall N o f args = true) {fa : AV} {vs : List AV} (h1 : ev p e f = some fa) (h2 : evs p e args = some vs) :
    ∃ fv as, VR S fa fv ∧ VRs S vs as.toList ∧ (execOp (evalT tmps) o) = invk fv as ∧ ∀ c, o.op ≠ .defer c := by
  unfold chkCall at hc
  split at hc
  · rename_i c ho
    simp only [Bool.and_eq_true] at hc
    obtain ⟨h3, h4⟩ := hc
    split at h3
    · rename_i g hcal
      refine ⟨evalT tmps g, c.args.map (evalT tmps), ev_ok hw hf h3 h1, by have := evs_ok hw hf h4 h2; simpa using this, ?_, fun c' hc' => by rw [ho] at hc'; cases hc'⟩
      simp only [execOp, ho, resolve, hcal]
      rfl
    · cases h3
  · cases hc

/-- what an operation of the list leads to -/
def OpOK (P : Program) (chk : Nat → List Nat → Code → ACode → Bool) (gl : Nat → List AV) (N : Nat) (B D : List Nat) (S0 : Gh) (H0 : Av.H) (w0 : World) (m : Machine) (b : Frame) (ds : List Deferred) (k : List Item) (cs : List Frame) (e' : Env) (H' : Av.H) : Prop :=
  ∃ S' Pv' tmps' w', Steps P m (lone (b.atR ⟨tmps', ds⟩ k) cs w') ∧ FS chk gl N B D S0 H0 w0 S' H' Pv' e' tmps' w'

theorem Step1.ok {e' : Env} {H' : Av.H} (h : Step1 P chk p.glob N B D S0 H0 w0 o tmps w e' H') (ho : ops[i]? = some o) (hw : Region.wanted o (yielded ops tmps) = true) (hnd : ∀ c, o.op ≠ .defer c) :
    OpOK P chk p.glob N B D S0 H0 w0 (lone (b.atR ⟨tmps, ds⟩ (.inRegion ops (i :: rest) :: k)) cs w) b ds (.inRegion ops rest :: k) cs e' H' := by
  obtain ⟨S', Pv', w', r, u, hr, hu, hFS⟩ := h
  exact ⟨S', Pv', _, w', step_val ho hw hnd hr hu, hFS⟩

theorem call_ok {n : Nat} (hG : Good P chk p n) (hgl : ∀ g, cleans (p.glob g) = true) (h : FS chk p.glob N B D S0 H0 w0 S H Pv e tmps w) (hd : ∀ k, o.dst = some k → k < N ∧ k ∉ B) (ho : ops[i]? = some o) (hw : Region.wanted o (yielded ops tmps) = true)
    {f : Opd} {args : List Opd} (hc : chkCall N o f args = true) {e' : Env} {H' : Av.H} :
    (insx p n (.call f args) o.dst e H = some (e', H') ∨ insx p n (.calli f args) o.dst e H = some (e', H')) →
    OpOK P chk p.glob N B D S0 H0 w0 (lone (b.atR ⟨tmps, ds⟩ (.inRegion ops (i :: rest) :: k)) cs w) b ds (.inRegion ops rest :: k) cs e' H' := by
  intro hh
  rcases hh with hh | hh
  · simp only [insx] at hh
    split at hh
    · rename_i fa vs h1 h2
      split at hh
      · rename_i v h1' hx
        cases hh
        obtain ⟨fv, as, hF, hA, hE, hnd⟩ := chkCall_run h.wr h.fr hc h1 h2
        obtain ⟨r, w1, hr, hrest⟩ := hG _ _ _ _ _ hx S w fv as h.wr hF hA
        obtain ⟨m0, hm0, u, w', S', hst, hWR, hV, hK⟩ := hrest (b.atR ⟨tmps, ds⟩ (.inRegion ops (i :: rest) :: k)) cs
        refine ⟨S', Pv, putT tmps o.dst u, w', (step_call ho hw hnd (by rw [hE]; exact hr) hm0).trans (by rw [finish_put ho u] at hst; exact hst), ?_⟩
        have hFS : FS chk p.glob N B D S0 H0 w0 S' H' Pv e tmps w' := ⟨hWR, h.fr.keep h.pv hK, h.pv.keep hK, h.kp.trans hK, h.nw, h.nd⟩
        exact hFS.put hd (.inl hV)
      · cases hh
    · cases hh
  · simp only [insx] at hh
    split at hh
    · rename_i fa vs h1 h2
      split at hh
      · rename_i hcl
        simp only [Bool.and_eq_true] at hcl
        split at hh
        · rename_i v h1' hx
          split at hh
          · rename_i hq
            cases hh
            obtain ⟨fv, as, hF, hA, hE, hnd⟩ := chkCall_run h.wr h.fr hc h1 h2
            have hWi := h.wr.iso hgl
            have hFi : VR S.iso fa fv := VR.clean (S := S) (S' := S.iso) (fun c o v (q : S.G c o = some v) => q) (fun c m (q : S.M c = some m) => q) hF hcl.1
            have hAi : VRs S.iso (vs.map AV.shutv) as.toList := hA.mapc fun x u hx hr => VR.clean (S := S) (S' := S.iso) (fun c o v (q : S.G c o = some v) => q) (fun c m (q : S.M c = some m) => q) hr.shutv (cleans_mem hcl.2 _ (List.mem_map.2 ⟨x, hx, rfl⟩))
            obtain ⟨r, w1, hr, hrest⟩ := hG _ _ _ _ _ hx S.iso w fv as hWi hFi hAi
            obtain ⟨m0, hm0, u, w', S1, hst, hWR, hV, hK⟩ := hrest (b.atR ⟨tmps, ds⟩ (.inRegion ops (i :: rest) :: k)) cs
            obtain ⟨hWb, hKb⟩ := WR.back h.wr hWR hK
            refine ⟨S.back S1 w.heap.size w', Pv, putT tmps o.dst u, w', (step_call ho hw hnd (by rw [hE]; exact hr) hm0).trans (by rw [finish_put ho u] at hst; exact hst), ?_⟩
            have hFS : FS chk p.glob N B D S0 H0 w0 (S.back S1 w.heap.size w') H Pv e tmps w' := ⟨hWb, h.fr.keep h.pv hKb, h.pv.keep hKb, h.kp.trans hKb, h.nw, h.nd⟩
            exact hFS.put hd (.inl (frz3_ok hWR hK hV hq))
          · cases hh
        · cases hh
      · cases hh
    · cases hh

theorem contains_iff {B : List Nat} {s : Nat} : B.contains s = true ↔ s ∈ B := by simp

theorem putT_none {u : Value} : putT tmps none u = tmps := rfl

theorem guard_ok (hf : FR N B S Pv e tmps w) {gops : Array Oper} {g : GIns} (hc : chkG P N B gops o g = true) {t : Bool} (hw : wantedA e g.guard = some t) : Region.wanted o (yielded gops tmps) = t := by
  simp only [chkG, Bool.and_eq_true] at hc
  obtain ⟨⟨⟨_, _⟩, hg⟩, _⟩ := hc
  unfold Region.wanted
  split at hg
  · rename_i h1 h2
    rw [h1]
    rw [h2] at hw; simp [wantedA] at hw; rw [hw]
  · rename_i j w1 s w2 h1 h2
    rw [h1]
    rw [h2] at hw
    simp only [Bool.and_eq_true, beq_iff_eq, decide_eq_true_eq] at hg
    obtain ⟨⟨⟨rfl, hsN⟩, _⟩, hq⟩ := hg
    split at hq
    · rename_i q hq'
      have hdst : q.dst = some s := by simpa using hq
      have hlt : s < tmps.size := by rw [hf.size]; exact hsN
      have hget : tmps[s]? = some (tmps.getD s undef) := by simp [hlt]
      simp only [wantedA] at hw
      simp only [yielded, hq', Option.bind_some, hdst, hget]
      split at hw
      · rename_i b1 hb
        cases hw
        have hv := hf.val s hsN (by rw [hb]; rfl)
        rw [hb] at hv
        rw [hv.bool_inv]
        simp
      · rename_i hb
        cases hw
        have hv := hf.val s hsN (by rw [hb]; rfl)
        rw [hb] at hv
        obtain ⟨us, hu, _⟩ := hv.tup_inv
        rw [hu]
        rfl
      · cases hw
    · cases hq
  · cases hg

theorem PG.ok (h : FS chk p.glob N B D S0 H0 w0 S H Pv e tmps w) (hd : ∀ k, o.dst = some k → k < N ∧ k ∉ B) {wr : Option (Nat × AV)} (hp : PG P w N S e tmps o v wr) : wr = none ∧ Step1 P chk p.glob N B D S0 H0 w0 o tmps w (e.dst o.dst v) H := by
  obtain ⟨hw, u, hr, hV⟩ := hp
  exact ⟨hw, S, Pv, w, _, u, hr, .inl rfl, h.put hd hV⟩

theorem not_defer_p {i : PIns} (hc : chkP P N B o i = true) : ∀ c, o.op ≠ .defer c := by
  intro c hcc
  cases i <;> simp only [chkP, hcc] at hc <;> cases hc
theorem not_defer_h {i : HIns} (hc : chkH P N o i = true) : ∀ c, o.op ≠ .defer c := by
  intro c hcc
  cases i <;> simp only [chkH, hcc] at hc <;> cases hc

/-- one operation -/
theorem op1_ok {n : Nat} (hG : Good P chk p n) (hgl : ∀ g, cleans (p.glob g) = true) (h : FS chk p.glob N B D S0 H0 w0 S H Pv e tmps w) (ho : ops[i]? = some o) {g : GIns} (hc : chkG P N B ops o g = true) {e' : Env} {H' : Av.H} (hs : op1 p n g e H = some (e', H')) :
    OpOK P chk p.glob N B D S0 H0 w0 (lone (b.atR ⟨tmps, ds⟩ (.inRegion ops (i :: rest) :: k)) cs w) b ds (.inRegion ops rest :: k) cs e' H' := by
  have hc' := hc
  simp only [chkG, Bool.and_eq_true, beq_iff_eq] at hc'
  obtain ⟨⟨⟨⟨hdst, hN⟩, hst⟩, hgd⟩, hins⟩ := hc'
  unfold op1 at hs
  split at hs
  · rename_i hw
    cases hs
    have hwn := guard_ok h.fr hc hw
    have hd : ∀ k, o.dst = some k → k < N ∧ k ∉ B := by
      intro k hk
      rw [hdst] at hk
      rw [hk] at hN
      simp only [Bool.and_eq_true, decide_eq_true_eq, beq_iff_eq] at hN
      refine ⟨hN.1, fun hmem => ?_⟩
      have hbx : isBox g.ins = true := by rw [← hN.2]; exact contains_iff.2 hmem
      split at hgd
      · rename_i h1 h2; rw [h2] at hw; simp [wantedA] at hw
      · rename_i h1 h2; rw [hbx] at hgd; simp at hgd
      · cases hgd
    refine ⟨S, Pv, putT tmps o.dst undef, w, .one ?_, by rw [← hdst]; exact h.put hd (.inl (.tup [] #[] rfl (by simp)))⟩
    have := stepR_op_skip (P := P) (b := b) (a := ⟨tmps, ds⟩) (k := k) (cs := cs) (w := w) (ops := ops) (i := i) (rest := rest) (by rw [ho]; simpa using hwn)
    rw [this, ho]
    cases hdd : o.dst <;> simp [Act.put, putT, hdd]
  · rename_i hw
    have hwn := guard_ok h.fr hc hw
    cases hi : g.ins with
    | p ins =>
      rw [hi] at hs hins hN hst
      simp only [chkIns] at hins
      have hnd := not_defer_p hins
      suffices hq : ∀ v wr, stepP p e ins = some (v, wr) → (wr = none ∧ Step1 P chk p.glob N B D S0 H0 w0 o tmps w (e.dst o.dst v) H) ∨ ∃ s u, wr = some (s, u) ∧ Step1 P chk p.glob N B D S0 H0 w0 o tmps w ((e.set s u).dst o.dst v) H by
        simp only [insx] at hs
        split at hs
        · rename_i v hv
          cases hs
          rcases hq _ _ hv with ⟨_, hq⟩ | ⟨s, u, hw', _⟩
          · rw [← hdst]; exact hq.ok ho hwn hnd
          · cases hw'
        · rename_i v s u hv
          cases hs
          rcases hq _ _ hv with ⟨hw', _⟩ | ⟨s', u', hw', hq⟩
          · cases hw'
          · cases hw'; rw [← hdst]; exact hq.ok ho hwn hnd
        · cases hs
      intro v wr hv
      by_cases hbox : isBox (.p ins) = true
      · -- a box is laid
        left
        have : ∃ s, o.dst = some s ∧ s < N ∧ s ∈ B := by
          rw [hdst]
          split at hN
          · rename_i d hd
            simp only [Bool.and_eq_true, decide_eq_true_eq, beq_iff_eq] at hN
            exact ⟨d, hd, hN.1, contains_iff.1 (by rw [hN.2]; exact hbox)⟩
          · rw [hbox] at hN; cases hN
        obtain ⟨s, hs1, hs2, hs3⟩ := this
        cases ins with
        | allocL s' zs =>
          have : s' = s := by
            have hcc := hins
            simp only [chkP] at hcc
            split at hcc
            · simp only [Bool.and_eq_true, beq_iff_eq] at hcc; rw [hcc.1] at hs1; cases hs1; rfl
            · cases hcc
          subst this
          exact m_allocL h hs1 hs2 hs3 hins hv
        | boxL s' x =>
          have : s' = s := by
            have hcc := hins
            simp only [chkP] at hcc
            split at hcc
            · simp only [Bool.and_eq_true, beq_iff_eq] at hcc; rw [hcc.1] at hs1; cases hs1; rfl
            · cases hcc
          subst this
          exact m_boxL h hs1 hs2 hs3 hins hv
        | _ => cases hbox
      · have hd : ∀ k, o.dst = some k → k < N ∧ k ∉ B := by
          intro k hk
          rw [hdst] at hk
          rw [hk] at hN
          simp only [Bool.and_eq_true, decide_eq_true_eq, beq_iff_eq] at hN
          refine ⟨hN.1, fun hmem => hbox ?_⟩
          rw [← hN.2]; exact contains_iff.2 hmem
        cases ins with
        | storeL s n a x =>
          right
          simp only [Bool.and_eq_true] at hst
          have hdn : o.dst = none := by rw [hdst]; simpa using hst.2
          obtain ⟨u, h1, h2⟩ := m_storeL h hdn hins hv
          exact ⟨s, u, h1, h2⟩
        | bslice sz zs len ps => exact .inl (m_bslice h hd hins hv)
        | allocL => exact absurd rfl hbox
        | boxL => exact absurd rfl hbox
        | mov x => exact .inl (PG.ok h hd (p_mov h.wr h.fr hins hv))
        | pick c a b => exact .inl (PG.ok h hd (p_pick h.wr h.fr hins hv))
        | build zs ps => exact .inl (PG.ok h hd (p_build h.wr h.fr hins hv))
        | lad s off => exact .inl (PG.ok h hd (p_lad h.wr h.fr hins hv))
        | faddr off a => exact .inl (PG.ok h hd (p_faddr h.wr h.fr hins hv))
        | iaddr arr sz x i => exact .inl (PG.ok h hd (p_iaddr h.wr h.fr hins hv))
        | ladi s len sz i => exact .inl (PG.ok h hd (p_ladi h.wr h.fr hins hv))
        | loadL s n agg a => exact .inl (PG.ok h hd (p_loadL h.wr h.fr hins hv))
        | loadC n agg a => exact .inl (PG.ok h hd (p_loadC h.wr h.fr hins hv))
        | lookupV n z m k => exact .inl (PG.ok h hd (p_lookupV h.wr h.fr hins hv))
        | bin op x y => exact .inl (PG.ok h hd (p_bin h.wr h.fr hins hv))
        | eqn k neg x y => exact .inl (PG.ok h hd (p_eqn h.wr h.fr hins hv))
        | un op x => exact .inl (PG.ok h hd (p_un h.wr h.fr hins hv))
        | index len sz agg x i => exact .inl (PG.ok h hd (p_index h.wr h.fr hins hv))
        | field off n agg x => exact .inl (PG.ok h hd (p_field h.wr h.fr hins hv))
        | slice sz x lo hi mx => exact .inl (PG.ok h hd (p_slice h.wr h.fr hins hv))
        | slica n sz a => cases hins
        | slicL s n sz a => exact .inl (PG.ok h hd (p_slicL h.wr h.fr hins hv))
        | mkfn f a b => exact .inl (PG.ok h hd (p_mkfn h.wr h.fr hins hv))
        | extract x i => exact .inl (PG.ok h hd (p_extract h.wr h.fr hins hv))
        | len x => exact .inl (PG.ok h hd (p_len h.wr h.fr hins hv))
        | mn xs => exact .inl (PG.ok h hd (p_mn h.wr h.fr hins hv))
        | mx xs => exact .inl (PG.ok h hd (p_mx h.wr h.fr hins hv))
        | nilchk x => exact .inl (PG.ok h hd (p_nilchk h.wr h.fr hins hv))
    | h ins =>
      rw [hi] at hs hins hN hst
      simp only [chkIns] at hins
      have hnd := not_defer_h hins
      have hd : ∀ k, o.dst = some k → k < N ∧ k ∉ B := by
        intro k hk
        rw [hdst] at hk
        rw [hk] at hN
        simp only [Bool.and_eq_true, decide_eq_true_eq, beq_iff_eq] at hN
        refine ⟨hN.1, fun hmem => ?_⟩
        have := contains_iff.2 hmem; rw [hN.2] at this; cases this
      simp only [insx] at hs
      split at hs
      · rename_i v H1 hv
        cases hs
        have hq : Step1 P chk p.glob N B D S0 H0 w0 o tmps w (e.dst o.dst v) H' := by
          cases ins with
          | alloc zs => exact h_alloc h hd hins hv
          | load n agg a => exact h_load h hd hins hv
          | store n a x => exact h_store h hd (by rw [hdst]; simpa using hst) hins hv
          | mslice sz zs l c => exact h_mslice h hd hins hv
          | mkmap => exact h_mkmap h hd hins hv
          | mapupd n m k v => exact h_mapupd h hd (by rw [hdst]; simpa using hst) hins hv
          | append sz bytes s x => exact h_append h hd hins hv
          | appendM sz bytes s x => exact h_appendM h hd hins hv
          | appendC sz bytes s x => exact h_appendC h hd hins hv
          | bsliceM sz zs len ps => exact h_bsliceM h hd hins hv
          | loadz n a => exact h_loadz h hd hins hv
          | appendZ sz bytes zs s n => exact h_appendZ h hd hins hv
          | lookup n z m k => exact h_lookup h hd hins hv
          | lookup2 n z m k => exact h_lookup2 h hd hins hv
          | mapent n z m k => exact h_mapent h hd hins hv
          | entst m i x => exact h_entst h hd (by rw [hdst]; simpa using hst) hins hv
          | _ => cases hins
        rw [← hdst]; exact hq.ok ho hwn hnd
      · cases hs
    | call f args =>
      rw [hi] at hs hins hN
      have hd : ∀ k, o.dst = some k → k < N ∧ k ∉ B := by
        intro k hk
        rw [hdst] at hk
        rw [hk] at hN
        simp only [Bool.and_eq_true, decide_eq_true_eq, beq_iff_eq] at hN
        refine ⟨hN.1, fun hmem => ?_⟩
        have := contains_iff.2 hmem; rw [hN.2] at this; cases this
      rw [← hdst] at hs
      exact call_ok hG hgl h hd ho hwn hins (.inl hs)
    | calli f args =>
      rw [hi] at hs hins hN
      have hd : ∀ k, o.dst = some k → k < N ∧ k ∉ B := by
        intro k hk
        rw [hdst] at hk
        rw [hk] at hN
        simp only [Bool.and_eq_true, decide_eq_true_eq, beq_iff_eq] at hN
        refine ⟨hN.1, fun hmem => ?_⟩
        have := contains_iff.2 hmem; rw [hN.2] at this; cases this
      rw [← hdst] at hs
      exact call_ok hG hgl h hd ho hwn hins (.inr hs)
    | callf f args => rw [hi] at hins; cases hins
  · cases hs
end
end Av
end
