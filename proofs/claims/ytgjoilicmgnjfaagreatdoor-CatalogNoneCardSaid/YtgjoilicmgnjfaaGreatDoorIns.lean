/-
  slices.Insert of an entry: walked.
  Conditions: none.
-/
import Derived.Test.YtgjoilicmgnjfaaGreatDoorMem
import Derived.Test.YtgjoilicmgnjfaaGreatDoorDe
import Derived.Lib.Overlaps
import Derived.Lib.AppendZerosOnto
import Derived.Lib.JoinLaws
import Derived.Lib.SliceRun
import Derived.Laws.Externs
import Derived.Laws.NewBlocks
import Derived.Shelf.RegionOpenPlain
import Derived.WalkKit
import Derived.Lib.Walk
import Derived.Lib.Hide
namespace Go.Proofs.YtgjoilicmgnjfaaGreatDoor.oc
open Go Go.RowKit Go.Lib Go.Proofs.YtgjoilicmgnjfaaGreatDoor.det
set_option maxRecDepth 100000
theorem wp_copy_runI {P : Program} (w : World) {o : Oper} {a : Act} {K : Act → World → Prop} {Q : Exit → Act → World → Prop} (d s : Operand) (t t' : TypeId)
    (ho : o.op = .call { callee := .builtin .copy, args := #[d, s], argTypes := #[t, t'] }) (v u : Value) (hd : a.eval d = v) (hs : a.eval s = u) {v' : Value} {w' : World}
    (hr : (Builtin.copy_ #[t, t'] o.type #[v, u]).run P w = .ok v' w') (h : K (a.put o.dst v') w') : o.wp P a w K Q := by
  unfold Oper.wp execOp
  simp only [ho, resolve, invoke, builtin, Sem.run_bind, Sem.run_pure, Result.andThen_ok, List.map_toArray, List.map_cons, List.map_nil, hd, hs, hr]
  exact h
theorem wpList_copy_runI {P : Program} (w : World) {ops : Array Oper} {rest : List Oper} {o : Oper} {a : Act} {Q : Exit → Act → World → Prop} (hgd : o.guard = none) (d s : Operand) (t t' : TypeId)
    (ho : o.op = .call { callee := .builtin .copy, args := #[d, s], argTypes := #[t, t'] }) (v u : Value) (hd : a.eval d = v) (hs : a.eval s = u) {v' : Value} {w' : World}
    (hr : (Builtin.copy_ #[t, t'] o.type #[v, u]).run P w = .ok v' w') (h : wpList P ops Q rest (a.put o.dst v') w') : wpList P ops Q (o :: rest) a w :=
  wpList_plain hgd fun _ hK => wp_copy_runI w d s t t' ho v u hd hs hr (hK _ _ h)
theorem step_copy_runI {P : Program} {ops : Array Oper} {o : Oper} {a : Act} {w : World} {K : Act → World → Prop} {Q : Exit → Act → World → Prop} {E : Prop}
    (hg : o.guard = none) (d x : Operand) (dT sT : TypeId) (hop : o.op = Op.call { callee := Callee.builtin Builtin.copy, args := #[d, x], argTypes := #[dT, sT] })
    (v u : Value) (hd : a.eval d = v) (hx : a.eval x = u) {v' : Value} {w' : World} (hr : (Builtin.copy_ #[dT, sT] o.type #[v, u]).run P w = .ok v' w') (hK : K (a.put o.dst v') w') :
    if Region.wanted o (yielded ops a.tmps) = true then Oper.wp P o a w K Q else E := by
  have hw : Region.wanted o (yielded ops a.tmps) = true := by simp [Region.wanted, hg]
  rw [if_pos hw]
  unfold Oper.wp
  simp [execOp, hop, resolve, invoke, builtin, hd, hx, hr, Result.andThen]
  exact hK
theorem infoE : (Tryz.prog.info? 59).map (fun i => (i.zero, i.size, i.bytes)) = some (some (.agg #[.int .i64 0, .string ⟨#[]⟩, .int .i64 0, .int .i64 0]), 4, 40) := by kernel_rfl
theorem under47 : Tryz.prog.underlying 47 = some (.slice 59) := Tryz.underlying47
theorem sz59 : (Tryz.prog.info? 59).map (·.size) = some 4 := by
  obtain ⟨i0, hi, hz0, hz1, hz2⟩ := info_parts infoE
  rw [hi]; simp [hz1]
theorem heap_setB (w : World) (b : Nat) (o : Obj) (h : b < w.heap.size) : (setB w b o).heap[b]? = some o := by
  show (w.heap.setIfInBounds b o)[b]? = _
  simp [h]
theorem heap_setB_ne (w : World) (b c : Nat) (o : Obj) (h : c ≠ b) : (setB w b o).heap[c]? = w.heap[c]? := by
  show (w.heap.setIfInBounds b o)[c]? = _
  rw [Array.getElem?_setIfInBounds_ne (Ne.symm h)]
theorem setB_setB (w : World) (b : Nat) (o o' : Obj) : (setB (setB w b o) b o').heap = w.heap.setIfInBounds b o' := by
  show (w.heap.setIfInBounds b o).setIfInBounds b o' = _
  simp
theorem sizeE : ∀ w : World, (Go.sizeOf 59).run Tryz.prog w = .ok 4 w := by
  obtain ⟨i0, hi, hz0, hz1, hz2⟩ := info_parts infoE
  intro w
  simp [sizeOf, typeInfo, hi, hz1]
theorem ovl {vb voff m vc b off lb cb : Nat} {vr cur : Array Value} {ve t : TypeId} {fz vfz : Nat × Nat} {w : World} (hne : vb ≠ b) (hv : w.heap[vb]? = some (.cells vr ve vfz)) (hb : w.heap[b]? = some (.cells cur t fz)) (hc : 0 < cur.size) (hfz : vfz.2 ≤ vr.size)
    (hz : ∀ i, i < vr.size → ¬ (vfz.1 ≤ i ∧ i < vfz.2)) (ho : voff < vr.size) :
    (callFunc 58 #[.slice (some ⟨vb, voff, none⟩) m vc, .slice (some ⟨b, off, none⟩) lb cb]).run Tryz.prog w = .ok (.value (.bool false)) w := by
  have hsa : w.shape? vb = some (ve, vr.size) := by simp [World.shape?, hv]
  have hsb : w.shape? b = some (t, cur.size) := by simp [World.shape?, hb]
  have hfa : w.frozen? ⟨vb, voff, none⟩ = false := by
    simp only [World.frozen?, hv]
    rw [Bool.eq_false_iff]
    intro h
    simp only [Bool.and_eq_true, decide_eq_true_eq] at h
    exact hz voff ho h
  have hfe : w.frozen? ⟨vb, vr.size, none⟩ = false := by
    simp only [World.frozen?, hv]
    rw [Bool.eq_false_iff]
    intro h
    simp only [Bool.and_eq_true, decide_eq_true_eq] at h
    omega
  rw [run_callFunc_extern Tryz.func58 (by kernel_rfl) (by kernel_rfl) (by kernel_rfl) (e := Extern.SlicesOverlaps.overlaps #[47, 47] #[4]) (by kernel_rfl),
    Lib.run_overlaps_apart w 47 4 59 under47 4 sizeE ⟨vb, voff, none⟩ ⟨b, off, none⟩ m vc lb cb hne ve t vr.size cur.size hsa hsb (by omega) hfa hfe]
  rfl
set_option maxHeartbeats 4000000 in
theorem insert_shift (b n c i vb voff m vc : Nat) (cur vr : Array Value) (fz vfz : Nat × Nat) (w : World) (hi : i < n) (hm : 0 < m) (hnc : n ≤ c) (hbig : (3 * (n + m) + 1200) * 40 ≤ 140737488355328) (hne : vb ≠ b)
    (hb : w.heap[b]? = some (.cells cur 59 fz)) (hroom : c * 4 ≤ cur.size) (hz : ∀ i, i < cur.size → ¬ (fz.1 ≤ i ∧ i < fz.2)) (hv : w.heap[vb]? = some (.cells vr 59 vfz)) (hvl : voff + m * 4 ≤ vr.size)
    (hvz : ∀ i, i < vr.size → ¬ (vfz.1 ≤ i ∧ i < vfz.2)) (hvf : vfz.2 ≤ vr.size)
    (h1 : ∀ j, j < n * 4 → (cur.getD j undef).oneCell' = true) (h2 : ∀ j, j < m * 4 → (vr.getD (voff + j) undef).oneCell' = true) (hle : n + m ≤ c) :
    Calls Tryz.prog 24 #[.slice (some ⟨b, 0, none⟩) n c, .int .i64 i, .slice (some ⟨vb, voff, none⟩) m vc] w (InsPost 4 59 b n c i voff m cur vr fz w) := by
  have hbl : b < w.heap.size := (Array.getElem?_eq_some_iff.1 hb).1
  have hov : ∀ off lb cb, (callFunc 58 #[.slice (some ⟨vb, voff, none⟩) m vc, .slice (some ⟨b, off, none⟩) lb cb]).run Tryz.prog w = .ok (.value (.bool false)) w := fun off lb cb =>
    ovl hne hv hb (by omega) hvf hvz (by omega)
  obtain ⟨row1, hC1, hR1⟩ := run_copyK (P := Tryz.prog) (dT := 47) (sT := 47) (elem := 59) (K := 4) (b := b) (o := (i + m) * 4) (sb := b) (so := i * 4) (n := n - i) (cur := cur) (vr := cur) (t := 59) (fz := fz)
    under47 sz59 (by omega) hz (by omega) (fun j hj => h1 _ (by omega))
  obtain ⟨row2, hC2, hR2⟩ := run_copyK (P := Tryz.prog) (dT := 47) (sT := 47) (elem := 59) (K := 4) (b := b) (o := i * 4) (sb := vb) (so := voff) (n := m) (cur := row1) (vr := vr) (t := 59) (fz := fz)
    under47 sz59 (by rw [hC1.1]; omega) (by rw [hC1.1]; exact hz) (by omega) h2
  have hcp1 : ∀ ty dc sc, (Builtin.copy_ #[47, 47] ty #[.slice (some ⟨b, (i + m) * 4, none⟩) (n + m - (i + m)) dc, .slice (some ⟨b, i * 4, none⟩) (n + m - i) sc]).run Tryz.prog w.drew = .ok (goInt (n - i : Nat)) (setB w.drew b (.cells row1 59 fz)) := fun ty dc sc =>
    hR1 w.drew ty _ dc _ sc _ _ hb hb (by simp only [Nat.min_def]; split <;> omega)
  obtain ⟨W1, hW1⟩ : ∃ W1, W1 = setB w.drew b (.cells row1 59 fz) := ⟨_, rfl⟩
  have hb' : W1.heap[b]? = some (.cells row1 59 fz) := by rw [hW1]; exact heap_setB w.drew b _ hbl
  have hv' : W1.heap[vb]? = some (.cells vr 59 vfz) := by rw [hW1, heap_setB_ne w.drew b vb _ hne]; exact hv
  have hcp2 : ∀ ty dc, (Builtin.copy_ #[47, 47] ty #[.slice (some ⟨b, i * 4, none⟩) (n + m - i) dc, .slice (some ⟨vb, voff, none⟩) m vc]).run Tryz.prog W1 = .ok (goInt (m : Nat)) (setB W1 b (.cells row2 59 fz)) := fun ty dc =>
    hR2 W1 ty _ dc _ vc _ _ hb' hv' (by simp only [Nat.min_def]; split <;> omega)
  have post : InsPost 4 59 b n c i voff m cur vr fz w (.returned (.slice (some ⟨b, 0, none⟩) (n + m) c)) (setB W1 b (.cells row2 59 fz)) := by
    refine ⟨by rw [hW1]; rfl, by rw [hW1]; rfl, by rw [hW1]; rfl, row2, fun j hj => ?_, Or.inl ⟨rfl, hle, by rw [hW1, setB_setB]; rfl, by rw [hC2.1, hC1.1]⟩⟩
    rw [hC2.2 j, hC1.2 j]
    unfold insV
    by_cases q1 : j < i * 4
    · rw [if_neg (by omega), if_neg (by omega), if_pos q1]
    · rw [if_neg q1]
      by_cases q2 : j < (i + m) * 4
      · rw [if_pos (by omega), if_pos q2]
      · rw [if_neg (by omega), if_pos (by omega), if_neg q2]
        congr 1
        omega
  rw [← hW1] at hcp1
  have HP := Lib.hid post
  clear hb hroom hz hv hvl h1 h2 hvz hvf hR1 hR2 hC1 hC2 hb' hv' hW1 post
  have mixed : Tryz.prog.follows .mixedOrders = true := by kernel_rfl
  have hz1 : ¬ ((m : Int) = 0) := by omega
  have hz2 : ¬ ((i : Int) = (n : Int)) := by omega
  have hz3 : ¬ ((c : Int) < (n : Int) + (m : Int)) := by omega
  have hw1 : IntKind.i64.wrap ((i : Int) + (m : Int)) = (i : Int) + (m : Int) := by rw [IntKind.wrap_i64]; omega
  have hw2 : IntKind.i64.wrap ((n : Int) + (m : Int)) = (n : Int) + (m : Int) := by rw [IntKind.wrap_i64]; omega
  have hb1 : (0 : Int) ≤ (i : Int) + (m : Int) := by omega
  have hb2 : (0 : Int) ≤ (n : Int) + (m : Int) := by omega
  have hq1 : ((m : Int) == 0) = false := by simpa using hz1
  have hq2 : ((i : Int) == (n : Int)) = false := by simpa using hz2
  have hin : i ≤ n := by omega
  have htn : ((i : Int) + (m : Int)).toNat = i + m := by omega
  have htn2 : ((n : Int) + (m : Int)).toNat = n + m := by omega
  have hb3 : (i : Int) ≤ (n : Int) + (m : Int) := by omega
  have hc1 : ¬ (c = i + m) := by omega
  have hc2 : ¬ (c = i) := by omega
  clear hbig
  go_enter Tryz.func24, Tryz.ntmps24
  go_wp2_with (simp only [hov])
  go_region_law_o (refine step_copy_runI rfl _ _ (47) (47) rfl _ _ (by simp [Act.eval, Act.put]) (by simp [Act.eval, Act.put]) (hcp1 _ _ _) ?_)
  go_wp2_with (at_builtin; refine wpList_copy_runI _ rfl _ _ (47) (47) rfl _ _ rfl rfl (hcp2 _ _) ?_)
  go_ret
  exact HP.out
set_option maxHeartbeats 4000000 in
theorem insert_grow (b n c i vb voff m vc : Nat) (cur vr : Array Value) (fz vfz : Nat × Nat) (w : World) (hi : i < n) (hm : 0 < m) (hnc : n ≤ c) (hbig : (3 * (n + m) + 1200) * 40 ≤ 140737488355328) (hne : vb ≠ b)
    (hb : w.heap[b]? = some (.cells cur 59 fz)) (hroom : c * 4 ≤ cur.size) (hv : w.heap[vb]? = some (.cells vr 59 vfz)) (hvl : voff + m * 4 ≤ vr.size)
    (h1 : ∀ j, j < n * 4 → (cur.getD j undef).oneCell' = true) (h2 : ∀ j, j < m * 4 → (vr.getD (voff + j) undef).oneCell' = true) (hle : c < n + m) :
    Calls Tryz.prog 24 #[.slice (some ⟨b, 0, none⟩) n c, .int .i64 i, .slice (some ⟨vb, voff, none⟩) m vc] w (InsPost 4 59 b n c i voff m cur vr fz w) := by
  have hbl : b < w.heap.size := (Array.getElem?_eq_some_iff.1 hb).1
  have hvbl : vb < w.heap.size := (Array.getElem?_eq_some_iff.1 hv).1
  obtain ⟨i0, hi0, hz0, hzs, hzb⟩ := info_parts infoE
  have hkk : (n : Int) + (m : Int) - (i : Int) = ((n + m - i : Nat) : Int) := by omega
  have hik : i + (n + m - i) = n + m := by omega
  have hol : ((List.range (i * 4)).map fun j => cur.getD j undef).length = i * 4 := by simp
  have hold : (Builtin.firstCells i0.size i (.slice (some ⟨b, 0, none⟩) i c)).run Tryz.prog w.drew = .ok ((List.range (i * 4)).map fun j => cur.getD j undef).toArray w.drew := by
    rw [hzs]
    refine run_firstCells_some w.drew 4 i ⟨b, 0, none⟩ i c _ hol (fun j v hj => ?_)
    have hj2 : j < i * 4 := by
      rcases Nat.lt_or_ge j (i * 4) with h | h
      · exact h
      · rw [List.getElem?_eq_none (by rw [hol]; exact h)] at hj; cases hj
    rw [add_place, show Nat.add 0 j = j from Nat.zero_add j, cell_of (w := w.drew) hb (by omega)]
    simp [hj2] at hj
    rw [← hj]
    simp [Array.getD_eq_getD_getElem?]
  obtain ⟨G, hG⟩ : ∃ G, G = grownCap w (n + m) c 59 := ⟨_, rfl⟩
  obtain ⟨ROW, hROW⟩ : ∃ ROW : Array Value, ROW = ((List.range (i * 4)).map fun j => cur.getD j undef).toArray ++ Builtin.zeroCells (Value.agg #[.int .i64 0, .string ⟨#[]⟩, .int .i64 0, .int .i64 0]).cells (n + m - i) ++ Builtin.zeroCells (Value.agg #[.int .i64 0, .string ⟨#[]⟩, .int .i64 0, .int .i64 0]).cells (G - (n + m)) := ⟨_, rfl⟩
  obtain ⟨W0, hW0⟩ : ∃ W0, W0 = w.drew.alloc (.cells ROW 59) := ⟨_, rfl⟩
  have hrz : ∀ ty, (Builtin.append_ #[47, 3] ty #[.slice (some ⟨b, 0, none⟩) i c, .int .i64 ((n : Int) + (m : Int) - (i : Int))]).run Tryz.prog w = .ok (.slice (some ⟨w.heap.size, 0, none⟩) (n + m) G) W0 := fun ty => by
    have h := Lib.run_append_grow_zeros w 47 3 ty 59 i0 _ .i64 .i64 under47 Tryz.underlying3 hi0 hz0 (some ⟨b, 0, none⟩) i c _ hold (n + m - i) (by omega) (by omega) (by omega) (by omega) (by rw [hzb]; omega) (by rw [hzb, hik]; have := next_cap (need := n + m) (cap := c) (by omega); have := Nat.mul_le_mul_right 40 this; omega)
    rw [hik] at h
    rw [hkk, hW0, hROW, hG]
    exact h
  have hGn : n + m ≤ G := by rw [hG]; exact grownCap_ge w _ _ _
  have hRs : ROW.size = G * 4 := by
    rw [hROW]
    simp [Builtin.zeroCells, Value.cells]
    omega
  have hRo : ∀ j, j < i * 4 → ROW.getD j undef = cur.getD j undef := fun j hj => by
    rw [hROW, Array.getD_eq_getD_getElem?, Array.getElem?_append_left (by simp [Builtin.zeroCells, Value.cells]; omega), Array.getElem?_append_left (by simpa using hj)]
    simp [hj, Array.getD_eq_getD_getElem?]
  obtain ⟨row1, hC1, hR1⟩ := run_copyK (P := Tryz.prog) (dT := 47) (sT := 47) (elem := 59) (K := 4) (b := w.heap.size) (o := i * 4) (sb := vb) (so := voff) (n := m) (cur := ROW) (vr := vr) (t := 59) (fz := (0, 0))
    under47 sz59 (by omega) (fun _ _ h => by omega) (by omega) h2
  obtain ⟨row2, hC2, hR2⟩ := run_copyK (P := Tryz.prog) (dT := 47) (sT := 47) (elem := 59) (K := 4) (b := w.heap.size) (o := (i + m) * 4) (sb := b) (so := i * 4) (n := n - i) (cur := row1) (vr := cur) (t := 59) (fz := (0, 0))
    under47 sz59 (by rw [hC1.1]; omega) (fun _ _ h => by omega) (by omega) (fun j hj => h1 _ (by omega))
  have hn0 : W0.heap[w.heap.size]? = some (.cells ROW 59 (0, 0)) := by rw [hW0]; show (w.heap.push _)[w.heap.size]? = _; simp
  have hb0 : ∀ k, k < w.heap.size → W0.heap[k]? = w.heap[k]? := fun k hk => by rw [hW0]; show (w.heap.push _)[k]? = _; rw [Array.getElem?_push, if_neg (by omega)]
  have hs0 : w.heap.size < W0.heap.size := by rw [hW0]; show _ < (w.heap.push _).size; simp
  obtain ⟨W1, hW1⟩ : ∃ W1, W1 = setB W0 w.heap.size (.cells row1 59 (0, 0)) := ⟨_, rfl⟩
  have hcpA : ∀ ty dc, (Builtin.copy_ #[47, 47] ty #[.slice (some ⟨w.heap.size, i * 4, none⟩) (n + m - i) dc, .slice (some ⟨vb, voff, none⟩) m vc]).run Tryz.prog W0 = .ok (goInt (m : Nat)) W1 := fun ty dc => by
    rw [hW1]
    exact hR1 W0 ty _ dc _ vc 59 vfz hn0 (by rw [hb0 vb hvbl]; exact hv) (by simp only [Nat.min_def]; split <;> omega)
  obtain ⟨W2, hW2⟩ : ∃ W2, W2 = setB W1.drew w.heap.size (.cells row2 59 (0, 0)) := ⟨_, rfl⟩
  have hcpB : ∀ ty dc sc, (Builtin.copy_ #[47, 47] ty #[.slice (some ⟨w.heap.size, (i + m) * 4, none⟩) (n + m - (i + m)) dc, .slice (some ⟨b, i * 4, none⟩) (n - i) sc]).run Tryz.prog W1.drew = .ok (goInt (n - i : Nat)) W2 := fun ty dc sc => by
    rw [hW2]
    refine hR2 W1.drew ty _ dc _ sc 59 fz ?_ ?_ (by simp only [Nat.min_def]; split <;> omega)
    · show W1.heap[_]? = _
      rw [hW1]; exact heap_setB W0 _ _ hs0
    · show W1.heap[_]? = _
      rw [hW1, heap_setB_ne W0 _ b _ (by omega), hb0 b hbl]
      exact hb
  have post : InsPost 4 59 b n c i voff m cur vr fz w (.returned (.slice (some ⟨w.heap.size, 0, none⟩) (n + m) G)) W2 := by
    have hh : W2.heap = w.heap.push (.cells row2 59 (0, 0)) := by
      rw [hW2]
      show (W1.heap).setIfInBounds _ _ = _
      rw [hW1, hW0]
      show ((w.heap.push _).setIfInBounds _ _).setIfInBounds _ _ = _
      apply Array.ext_getElem?
      intro j
      rw [Array.getElem?_setIfInBounds, Array.getElem?_push]
      by_cases hj : w.heap.size = j
      · subst hj
        simp
      · rw [if_neg hj, Array.getElem?_setIfInBounds, if_neg hj, Array.getElem?_push, if_neg (Ne.symm hj), if_neg (Ne.symm hj)]
    refine ⟨by rw [hW2, hW1, hW0]; rfl, by rw [hW2, hW1, hW0]; rfl, by rw [hW2, hW1, hW0]; rfl, row2, fun j hj => ?_, Or.inr ⟨G, rfl, hGn, hh, by rw [hC2.1, hC1.1, hRs]; exact Nat.le_refl _⟩⟩
    rw [hC2.2 j, hC1.2 j]
    unfold insV
    by_cases q1 : j < i * 4
    · rw [if_neg (by omega), if_neg (by omega), if_pos q1]
      exact hRo j q1
    · rw [if_neg q1]
      by_cases q2 : j < (i + m) * 4
      · rw [if_neg (by omega), if_pos (by omega), if_pos q2]
      · rw [if_pos (by omega), if_neg q2]
        congr 1
        omega
  have HP := Lib.hid post
  clear hb hroom hv hvl h1 h2 hR1 hR2 hC1 hC2 hW1 hW2 hW0 hn0 hb0 hs0 post hold hol hROW hRs hRo hG hkk hik hi0 hz0 hzs hzb
  have mixed : Tryz.prog.follows .mixedOrders = true := by kernel_rfl
  have hz1 : ¬ ((m : Int) = 0) := by omega
  have hz2 : ¬ ((i : Int) = (n : Int)) := by omega
  have hz3 : ((c : Int) < (n : Int) + (m : Int)) := by omega
  have hw1 : IntKind.i64.wrap ((i : Int) + (m : Int)) = (i : Int) + (m : Int) := by rw [IntKind.wrap_i64]; omega
  have hw2 : IntKind.i64.wrap ((n : Int) + (m : Int)) = (n : Int) + (m : Int) := by rw [IntKind.wrap_i64]; omega
  have hw3 : IntKind.i64.wrap ((n : Int) + (m : Int) - (i : Int)) = (n : Int) + (m : Int) - (i : Int) := by rw [IntKind.wrap_i64]; omega
  have hb1 : (0 : Int) ≤ (i : Int) + (m : Int) := by omega
  have hb2 : (0 : Int) ≤ (n : Int) + (m : Int) := by omega
  have hq1 : ((m : Int) == 0) = false := by simpa using hz1
  have hq2 : ((i : Int) == (n : Int)) = false := by simpa using hz2
  have hin : i ≤ n := by omega
  have hic : i ≤ c := by omega
  have htn : ((i : Int) + (m : Int)).toNat = i + m := by omega
  have htn2 : ((n : Int) + (m : Int)).toNat = n + m := by omega
  have hb3 : (i : Int) ≤ (n : Int) + (m : Int) := by omega
  have hb4 : (i : Int) + (m : Int) ≤ (n : Int) + (m : Int) := by omega
  have hc1 : ¬ (G = i + m) := by omega
  have hc2 : ¬ (G = i) := by omega
  have hc3 : ¬ (c = i) := by omega
  clear hbig
  go_enter Tryz.func24, Tryz.ntmps24
  go_wp2_with (first
    | (at_builtin; refine Lib.wpList_append_run _ rfl _ _ _ _ rfl _ _ rfl rfl _ _ (hrz _) ?_)
    | (at_builtin; refine wpList_copy_runI _ rfl _ _ (47) (47) rfl _ _ rfl rfl (hcpA _ _) ?_))
  go_region_law_o (refine step_copy_runI rfl _ _ (47) (47) rfl _ _ (by simp [Act.eval, Act.put]) (by simp [Act.eval, Act.put]) (hcpB _ _ _) ?_)
  go_wp2_with fail
  go_ret
  exact HP.out
theorem insert_any : InsAt Tryz.prog 24 4 40 59 := by
  intro b n c i vb voff m vc cur vr fz vfz w hi hm hnc hbig hne hb hroom hz hv hvl hvz hvf h1 h2
  by_cases hle : n + m ≤ c
  · exact insert_shift b n c i vb voff m vc cur vr fz vfz w hi hm hnc hbig hne hb hroom hz hv hvl hvz hvf h1 h2 hle
  · exact insert_grow b n c i vb voff m vc cur vr fz vfz w hi hm hnc hbig hne hb hroom hv hvl h1 h2 (by omega)
theorem insertAt : ∀ (args : List Value) (M : Mem) (v : Value) (M' : Mem), insertS 4 40 59 args M = some (v, M') → ∀ (ρ : Ren) (A : Nat → Prop) (args' : Array Value) (w : World), Rm Tryz.prog ρ A M w → AsR ρ A args args' → Goes Tryz.prog 24 args' w (RetV Tryz.prog ρ A M w v M') :=
  insertS_ok (fun a w => Tryz.call24 a w) (by obtain ⟨i0, hi, hz0, hz1, hz2⟩ := info_parts infoE; simp [Program.cellsOf, hi, hz1]) (by decide) insert_any
end Go.Proofs.YtgjoilicmgnjfaaGreatDoor.oc
