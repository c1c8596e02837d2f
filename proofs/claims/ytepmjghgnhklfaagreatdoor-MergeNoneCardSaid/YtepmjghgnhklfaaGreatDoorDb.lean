/-
  Operations one by one: what is run and that it is right.
  Conditions: none.
-/
import Derived.Test.YtepmjghgnhklfaaGreatDoorDa
import Derived.Laws.BytesString
namespace Go.Proofs.YtepmjghgnhklfaaGreatDoor.det
open Go

section
variable {D : Dat} {P : Program} {ρ : Ren} {A : Nat → Prop} {M : Mem} {w : World}

theorem St.of_sub {M1 M' : Mem} {ρ' : Ren} {A' : Nat → Prop} {w' : World} (hs : ∀ a o, M1.get a = some o → M.get a = some o) (hn : M1.next = M.next) (ht : M1.top = M.top) (h : St P ρ A M1 w ρ' A' M' w') : St P ρ A M w ρ' A' M' w' :=
  ⟨h.agree, h.up, fun n hn2 => by rw [← hn, ← ht]; exact h.fresh n hn2, by rw [← hn]; exact h.next, by rw [← ht]; exact h.top, h.mem, h.size, h.tape, h.os, h.output, fun b hb hf => h.frame b hb (fun n o hn2 => hf n o (hs n o hn2)), fun n o hn2 => by
    rcases h.img n o hn2 with h1 | ⟨m, o2, h1, h2⟩
    · exact Or.inl h1
    · exact Or.inr ⟨m, o2, hs m o2 h1, h2⟩⟩
/-- a block that goes on under a new name -/
theorem St.move (h : Rm P ρ A M w) (hl : M.next < M.top) {b : Nat} {o0 o : CObj} {o' : Obj} (hb : M.get b = some o0) (ho : Ro ρ A o o') (hr : Room P (ρ b).2 o') : St P ρ A M w (rset ρ M.next (ρ b)) (more A M.next) ((M.del b).alloc o) { w with heap := w.heap.setIfInBounds (ρ b).1 o' } := by
  have hag := agree_new h hl (ρ b)
  have hll : M.next < lim := Nat.lt_of_lt_of_le hl h.lim
  have hd := M.get_del b (h.lt b o0 hb)
  have hg : ∀ n, ((M.del b).alloc o).get n = if n = M.next then some o else if n = b then none else M.get n := by
    intro n
    rw [(M.del b).get_alloc o hll, hd]
    rfl
  have hbl := h.block_lt hb
  have cases3 : ∀ a x, ((M.del b).alloc o).get a = some x → (a = M.next ∧ x = o) ∨ (a ≠ b ∧ a ≠ M.next ∧ M.get a = some x ∧ A a) := by
    intro a x ha
    rw [hg] at ha
    by_cases h1 : a = M.next
    · rw [if_pos h1] at ha
      injection ha with ha
      exact Or.inl ⟨h1, ha.symm⟩
    · rw [if_neg h1] at ha
      by_cases h2 : a = b
      · rw [if_pos h2] at ha; cases ha
      · rw [if_neg h2] at ha
        exact Or.inr ⟨h2, h1, ha, h.live a x ha⟩
  refine ⟨hag, fun _ h => Or.inl h, fun n hn => hn.imp id (fun e => by rw [e]; exact ⟨Nat.le_refl _, hl⟩), Nat.le_succ _, rfl, ⟨?_, ?_, ?_, ?_, ?_, h.lim⟩, ?_, rfl, rfl, rfl, ?_, ?_⟩
  · intro x y ox oy hx hy e
    rcases cases3 x ox hx with ⟨rfl, _⟩ | ⟨x1, x2, x3, x4⟩ <;> rcases cases3 y oy hy with ⟨rfl, _⟩ | ⟨y1, y2, y3, y4⟩
    · rfl
    · rw [rset_new, rset_old y2] at e
      exact absurd (h.inj b y o0 oy hb y3 e).symm y1
    · rw [rset_new, rset_old x2] at e
      exact absurd (h.inj x b ox o0 x3 hb e) x1
    · rw [rset_old x2, rset_old y2] at e
      exact h.inj x y ox oy x3 y3 e
  · intro a x ha
    rcases cases3 a x ha with ⟨rfl, rfl⟩ | ⟨a1, a2, a3, a4⟩
    · rw [rset_new]
      exact ⟨o', by simp [hbl], ho.up (fun _ h => Or.inl h) hag, hr⟩
    · rw [rset_old a2]
      obtain ⟨x', h2, h3, h4⟩ := h.obj a x a3
      refine ⟨x', ?_, h3.up (fun _ h => Or.inl h) hag, h4⟩
      have hne : (ρ b).1 ≠ (ρ a).1 := fun e => a1 (h.inj a b x o0 a3 hb e.symm)
      show (w.heap.setIfInBounds (ρ b).1 o')[(ρ a).1]? = _
      rw [Array.getElem?_setIfInBounds_ne hne]
      exact h2
  · intro a x ha
    rcases cases3 a x ha with ⟨rfl, rfl⟩ | ⟨a1, a2, a3, a4⟩
    · exact Or.inr rfl
    · exact Or.inl a4
  · intro n hn
    show n < M.next + 1 ∨ M.top ≤ n
    rcases hn with hn | hn
    · have := h.sub n hn
      omega
    · omega
  · intro n hn
    rcases hn with hn | hn
    · exact h.small n hn
    · rw [hn]; exact hll
  · simp
  · intro c _ hf
    have hne : (ρ b).1 ≠ c := hf b o0 hb
    show (w.heap.setIfInBounds (ρ b).1 o')[c]? = _
    rw [Array.getElem?_setIfInBounds_ne hne]
  · intro n x hn
    rcases cases3 n x hn with ⟨rfl, rfl⟩ | ⟨a1, a2, a3, a4⟩
    · exact Or.inr ⟨b, o0, hb, by rw [rset_new]⟩
    · exact Or.inr ⟨n, x, a3, by rw [rset_old a2]⟩
theorem RL.app {k : Nat → Prop} {xs ys : List Value} {xs' ys' : Array Value} (h : RL ρ k xs xs') (h2 : RL ρ k ys ys') : RL ρ k (xs ++ ys) (xs' ++ ys') := by
  refine ⟨by simp [h.len, h2.len], fun i v hi => ?_⟩
  rw [Array.getD_eq_getD_getElem?]
  by_cases hl : i < xs.length
  · rw [List.getElem?_append_left hl] at hi
    rw [Array.getElem?_append_left (by rw [← h.len]; exact hl)]
    have := h.val i v hi
    rwa [Array.getD_eq_getD_getElem?] at this
  · rw [List.getElem?_append_right (by omega)] at hi
    rw [Array.getElem?_append_right (by rw [← h.len]; omega), ← h.len]
    have := h2.val _ v hi
    rwa [Array.getD_eq_getD_getElem?] at this
theorem RL.more {k : Nat → Prop} {cs : List Value} {c' r : Array Value} (h : RL ρ k cs c') (e : TypeId) : Ro ρ k (.cells cs e) (.cells (c' ++ r) e (0, 0)) := by
  refine .cells cs e _ (0, 0) (by rw [h.len]; simp) (fun i v hi => ?_) (fun i _ hi => by omega)
  have hl : i < cs.length := by
    rcases Nat.lt_or_ge i cs.length with h1 | h1
    · exact h1
    · rw [List.getElem?_eq_none h1] at hi; cases hi
  rw [Array.getD_eq_getD_getElem?, Array.getElem?_append_left (by rw [← h.len]; exact hl)]
  have := h.val i v hi
  rwa [Array.getD_eq_getD_getElem?] at this
def opn (n : Nat) (q : Nat) : Value := .slice (some ⟨q, 0, some 0⟩) n n
noncomputable def eApp (e : TypeId) (size : Nat) (base : Option Addr) (sl sc n : Nat) (new : List Value) (M : Mem) : Option (Value × Mem) :=
  bif Nat.ble (Nat.add sl n) sc then
    (match base with
    | none => bif Nat.beq new.length 0 then some (.slice none (Nat.add sl n) sc, M) else none
    | some ⟨_, _, some 1⟩ => bif Nat.beq new.length 0 && Nat.beq sc 0 then some (.slice (some ⟨0, 0, some 1⟩) 0 0, M) else none
    | some ⟨b, o, m⟩ =>
      (match eCells M b with
      | some (cur, e2) =>
        bif Nat.ble (Nat.add (Nat.add o (Nat.mul sl size)) new.length) cur.length && new.all one then some (.slice (some ⟨b, o, m⟩) (Nat.add sl n) sc, M.upd b (.cells (splice cur (Nat.add o (Nat.mul sl size)) new) e2)) else none
      | none => none))
  else
    (match base with
    | none => bif Nat.beq sl 0 then mk M (.cells new e) (opn (Nat.add sl n)) else none
    | some ⟨b, o, none⟩ =>
      (match eCells M b with
      | some (cur, _) => bif Nat.ble (Nat.add o (Nat.mul sl size)) cur.length then mk M (.cells ((cur.drop o).take (Nat.mul sl size) ++ new) e) (opn (Nat.add sl n)) else none
      | none => none)
    | some ⟨b, 0, some 0⟩ =>
      (match eCells M b with
      | some (cur, e2) => bif Nat.ble (Nat.mul sl size) cur.length && Nat.beq e2 e && new.all one then mk (M.del b) (.cells (cur.take (Nat.mul sl size) ++ new) e) (opn (Nat.add sl n)) else none
      | none => none)
    | _ => none)
noncomputable def eAppend (D : Dat) (ts : List TypeId) (s x : Value) (M : Mem) : Option (Value × Mem) :=
  match nth ts 0, nth ts 1, s with
  | some t, some t1, .slice base sl sc =>
    (match D.un t, D.un t1 with
    | some (.slice e), some d1 =>
      (match D.ti e with
      | some i =>
        (match i.zero, eMore D M d1 i x with
        | some z, some (n, new) =>
          bif Nat.blt 0 i.size && Nat.beq z.cells.toList.length i.size && Nat.ble (Nat.mul (Nat.add (Nat.mul 3 (Nat.add sl n)) 1200) i.bytes) 140737488355328 && Nat.ble (Nat.add sl n) 140737488355328 && Nat.beq new.length (Nat.mul n i.size) then
            eApp e i.size base sl sc n new M
          else none
        | _, _ => none)
      | none => none)
    | _, _ => none)
  | _, _, _ => none
theorem grow_ok {z : Value} {e : TypeId} {i : TypeInfo} {sl n cap : Nat} {old new : List Value} {old' new' : Array Value} (ok : DatOk D P) (hi : D.ti e = some i) (hzs : z.cells.size = i.size) (hM : Rm P ρ A M w) (hl : M.next < M.top) (ho : RL ρ A old old') (hn : RL ρ A new new') (hos : old.length = sl * i.size) (hns : new.length = n * i.size) (hc : sl + n ≤ cap) :
    St P ρ A M w (rset ρ M.next (w.heap.size, cap)) (more A M.next) (M.alloc (.cells (old ++ new) e)) { w1 w with heap := w.heap.push (.cells (old' ++ new' ++ Builtin.zeroCells z.cells (cap - (sl + n))) e) } := by
  have h1 : St P ρ A M w ρ A M (w1 w) := hM.drew _
  refine h1.trans (St.alloc h1.mem hl cap ((ho.app hn).more e) ?_)
  refine ⟨?_, Or.inl (Nat.zero_le _)⟩
  show cap * P.cellsOf e ≤ Array.size _
  have hce : P.cellsOf e = i.size := by simp [Program.cellsOf, ok.ti _ _ hi]
  have hsz : (Builtin.zeroCells z.cells (cap - (sl + n))).size = (cap - (sl + n)) * i.size := by simp [Builtin.zeroCells, hzs]
  rw [Array.size_append, Array.size_append, hsz, ← ho.len, ← hn.len, hos, hns, hce, ← Nat.add_mul, ← Nat.add_mul]
  exact Nat.mul_le_mul_right _ (by omega)
set_option maxHeartbeats 1000000 in
theorem eAppend_ok (ok : DatOk D P) (Z : DatZ D) {ts : Array TypeId} {ty : TypeId} {s s' x x' v : Value} {M' : Mem} (h : eAppend D ts.toList s x M = some (v, M')) (hM : Rm P ρ A M w) (hs : Rv ρ A s s') (hx : Rv ρ A x x') : Sv P ρ A M w (Builtin.append_ ts ty #[s', x']) v M' := by
  unfold eAppend at h
  split at h
  · rename_i t t1 base sl sc ht ht1
    rw [nth_eq, Array.getElem?_toList] at ht ht1
    split at h
    · rename_i e d1 hu hu1
      split at h
      · rename_i i hi
        split at h
        · rename_i z n new hz hm
          cases hb : (Nat.blt 0 i.size && Nat.beq z.cells.toList.length i.size && Nat.ble (Nat.mul (Nat.add (Nat.mul 3 (Nat.add sl n)) 1200) i.bytes) 140737488355328 && Nat.ble (Nat.add sl n) 140737488355328 && Nat.beq new.length (Nat.mul n i.size)) <;> rw [hb] at h
          · cases h
          · simp only [cond_true] at h
            simp only [Bool.and_eq_true, Nat.blt_eq, Nat.beq_eq, Nat.ble_eq, Array.length_toList] at hb
            obtain ⟨⟨⟨⟨hs0, hzs⟩, hbig⟩, hbig2⟩, hnl⟩ := hb
            have hnl' : new.length = n * i.size := hnl
            have hbig' : (3 * (sl + n) + 1200) * i.bytes ≤ 140737488355328 := hbig
            have hbig2' : sl + n ≤ 140737488355328 := hbig2
            have run := fun (base' : Option Addr) (sc' : Nat) => app_run (ty := ty) (sl := sl) (sc := sc') (base := base') ok Z ht ht1 hu hu1 hi hz hs0 hm hM hx hbig' hbig2'
            clear hbig hbig2 hbig' hbig2' hnl
            unfold eApp at h
            cases hle : Nat.ble (Nat.add sl n) sc <;> rw [hle] at h
            · have hle' : ¬ sl + n ≤ sc := fun e0 => by
                have : Nat.ble (Nat.add sl n) sc = true := Nat.ble_eq ▸ e0
                rw [hle] at this; cases this
              simp only [cond_false] at h
              split at h
              · cases hb0 : Nat.beq sl 0 <;> rw [hb0] at h
                · cases h
                · simp only [cond_true] at h
                  have hsl0 : sl = 0 := Nat.eq_of_beq_eq_true hb0
                  obtain ⟨hl, hr⟩ := mk_some h
                  injection hr with hr1 hr2
                  subst hr1 hr2
                  cases hs
                  obtain ⟨new', hR, _, hg⟩ := run none sc
                  obtain ⟨cap, hc, hrun⟩ := hg hle' #[] rfl
                  have hst := grow_ok (z := z) (sl := sl) (n := n) (old := []) (old' := #[]) ok hi hzs hM hl ⟨rfl, fun i v hi => by simp at hi⟩ hR (by simp [hsl0]) hnl' hc
                  refine ⟨_, _, _, _, hrun, ?_, hst⟩
                  have := Rv.slO (ρ := rset ρ M.next (w.heap.size, cap)) (k := more A M.next) M.next 0 (sl + n) (sl + n) cap more_new hc (fun _ => by rw [rset_new])
                  rw [rset_new] at this
                  exact this
              · rename_i b o
                split at h
                · rename_i cur e2 hcur
                  cases hb0 : Nat.ble (Nat.add o (Nat.mul sl i.size)) cur.length <;> rw [hb0] at h
                  · cases h
                  · simp only [cond_true] at h
                    rw [Nat.ble_eq] at hb0
                    have hb0' : o + sl * i.size ≤ cur.length := hb0
                    obtain ⟨hl, hr⟩ := mk_some h
                    injection hr with hr1 hr2
                    subst hr1 hr2
                    cases hs with
                    | slX _ _ _ _ hlt =>
                      obtain ⟨c', fz, hw, hcl, hcv, hcz, _⟩ := hM.row hcur
                      obtain ⟨old', hold, hoR⟩ := load_cells (P := P) (n := sl * i.size) hw hcl hcv hb0'
                      obtain ⟨new', hR, _, hg⟩ := run (some ⟨(ρ b).1, o, none⟩) sc
                      obtain ⟨cap, hc, hrun⟩ := hg hle' old' (hold (w1 w) rfl)
                      have hst := grow_ok (z := z) (sl := sl) (n := n) ok hi hzs hM hl hoR hR (by simp; omega) hnl' hc
                      refine ⟨_, _, _, _, hrun, ?_, hst⟩
                      have := Rv.slO (ρ := rset ρ M.next (w.heap.size, cap)) (k := more A M.next) M.next 0 (sl + n) (sl + n) cap more_new hc (fun _ => by rw [rset_new])
                      rw [rset_new] at this
                      exact this
                · cases h
              · rename_i b
                split at h
                · rename_i cur e2 hcur
                  cases hb0 : (Nat.ble (Nat.mul sl i.size) cur.length && Nat.beq e2 e && new.all one) <;> rw [hb0] at h
                  · cases h
                  · simp only [cond_true] at h
                    simp only [Bool.and_eq_true, Nat.ble_eq, Nat.beq_eq, List.all_eq_true] at hb0
                    obtain ⟨⟨hb1, rfl⟩, hone⟩ := hb0
                    have hb1' : 0 + sl * i.size ≤ cur.length := by rw [Nat.zero_add]; exact hb1
                    obtain ⟨hl, hr⟩ := mk_some h
                    injection hr with hr1 hr2
                    subst hr1 hr2
                    cases hs with
                    | slO _ _ _ _ c2 hlt hcc hc0 =>
                      have hc2 := hc0 rfl
                      subst hc2
                      obtain ⟨c', fz, hw, hcl, hcv, hcz, hroom, hfz⟩ := hM.row hcur
                      have hce : P.cellsOf e2 = i.size := by simp [Program.cellsOf, ok.ti _ _ hi]
                      rw [hce] at hroom
                      obtain ⟨new', hR, hin, hg⟩ := run (some ⟨(ρ b).1, 0, none⟩) (ρ b).2
                      have hsub : ∀ a o, (M.del b).get a = some o → M.get a = some o := fun a o ha => by
                        rw [M.get_del b (hM.small _ hlt)] at ha
                        by_cases h1 : a = b
                        · rw [if_pos h1] at ha; cases ha
                        · rwa [if_neg h1] at ha
                      by_cases hle2 : sl + n ≤ (ρ b).2
                      · have hrun := hin hle2
                        simp only [add_place] at hrun
                        have hfit : sl * i.size + new'.size ≤ c'.size := by
                          rw [← hR.len, hnl', ← Nat.add_mul]
                          exact Nat.le_trans (Nat.mul_le_mul_right _ hle2) hroom
                        have h1' : ∀ v ∈ new'.toList, v.oneCell' = true := by
                          intro v hv'
                          obtain ⟨j, hj, rfl⟩ := List.getElem_of_mem hv'
                          have hj2 : j < new.length := by rw [hR.len]; simpa using hj
                          have := hR.val j new[j] (List.getElem?_eq_getElem hj2)
                          rw [Array.getD_eq_getD_getElem?, Array.getElem?_eq_getElem (by simpa using hj)] at this
                          exact one_rv this (hone _ (List.getElem_mem hj2))
                        have hst := r_stores P (ρ b).1 (Nat.add 0 (sl * i.size)) e2 fz new'.toList 0 c' w hw hcz (by rw [Array.length_toList]; show 0 + sl * i.size + 0 + new'.size ≤ _; omega) h1'
                        rw [hst] at hrun
                        refine ⟨rset ρ M.next (ρ b), _, _, _, hrun, ?_, St.move hM hl (eCells_some hcur) (.cells _ _ _ _ ?_ ?_ ?_) ?_⟩
                        · have := Rv.slO (ρ := rset ρ M.next (ρ b)) (k := more A M.next) M.next 0 (sl + n) (sl + n) (ρ b).2 more_new hle2 (fun _ => by rw [rset_new])
                          rw [rset_new] at this
                          exact this
                        · rw [fold_size, List.length_append, List.length_take, hR.len]
                          show min (sl * i.size) _ + _ ≤ _
                          omega
                        · intro j u hu
                          rw [fold_get _ _ 0 _ j (by rw [Array.length_toList]; show 0 + sl * i.size + 0 + new'.size ≤ _; omega)]
                          show Rv ρ A u (if 0 + sl * i.size + 0 ≤ j ∧ j < 0 + sl * i.size + 0 + new'.toList.length then new'.toList.getD (j - (0 + sl * i.size + 0)) undef else c'.getD j undef)
                          rw [Array.length_toList]
                          have hmin : min (sl * i.size) cur.length = sl * i.size := by omega
                          by_cases q1 : j < sl * i.size
                          · rw [if_neg (by omega)]
                            rw [List.getElem?_append_left (by rw [List.length_take]; show j < min (sl * i.size) _; omega), List.getElem?_take, if_pos (show j < Nat.mul sl i.size from q1)] at hu
                            exact hcv j u hu
                          · rw [List.getElem?_append_right (by rw [List.length_take]; show min (sl * i.size) _ ≤ j; omega), List.length_take] at hu
                            have hu' : new[j - sl * i.size]? = some u := by
                              have e9 : min (Nat.mul sl i.size) cur.length = sl * i.size := hmin
                              rw [e9] at hu
                              exact hu
                            have hj2 : j - sl * i.size < new.length := by
                              rcases Nat.lt_or_ge (j - sl * i.size) new.length with h1 | h1
                              · exact h1
                              · rw [List.getElem?_eq_none h1] at hu'; cases hu'
                            rw [hR.len] at hj2
                            rw [if_pos (by omega)]
                            have := hR.val _ u hu'
                            rw [show 0 + sl * i.size + 0 = sl * i.size by omega]
                            simpa [List.getD_eq_getElem?_getD, Array.getD_eq_getD_getElem?] using this
                        · intro j hj
                          rw [fold_size] at hj
                          exact hcz j hj
                        · show (ρ b).2 * P.cellsOf e2 ≤ Array.size _ ∧ (_ ≤ Array.size _ ∨ _)
                          rw [fold_size, hce]
                          rw [hce] at hfz
                          exact ⟨hroom, hfz⟩
                      · obtain ⟨old', hold, hoR⟩ := load_cells (P := P) (n := sl * i.size) hw hcl hcv hb1'
                        obtain ⟨cap, hc, hrun⟩ := hg hle2 old' (hold (w1 w) rfl)
                        have hst := grow_ok (z := z) (sl := sl) (n := n) ok hi hzs (hM.less hsub rfl rfl) hl hoR hR (by simp; omega) hnl' hc
                        refine ⟨_, _, _, _, hrun, ?_, St.of_sub hsub rfl rfl hst⟩
                        have := Rv.slO (ρ := rset ρ M.next (w.heap.size, cap)) (k := more A M.next) M.next 0 (sl + n) (sl + n) cap more_new hc (fun _ => by rw [rset_new])
                        rw [rset_new] at this
                        exact this
                · cases h
              · cases h
            · have hle' : sl + n ≤ sc := Nat.ble_eq ▸ hle
              simp only [cond_true] at h
              split at h
              · cases hb0 : Nat.beq new.length 0 <;> rw [hb0] at h
                · cases h
                · simp only [cond_true, Option.some.injEq, Prod.mk.injEq] at h
                  obtain ⟨rfl, rfl⟩ := h
                  cases hs
                  obtain ⟨new', hR, hin, _⟩ := run none sc
                  exact ⟨ρ, A, _, w, hin hle', .sl0 _ _, .refl hM⟩
              · cases hb0 : (Nat.beq new.length 0 && Nat.beq sc 0) <;> rw [hb0] at h
                · cases h
                · simp only [cond_true, Option.some.injEq, Prod.mk.injEq] at h
                  obtain ⟨rfl, rfl⟩ := h
                  rw [Bool.and_eq_true, Nat.beq_eq, Nat.beq_eq] at hb0
                  obtain ⟨hb1, hb2⟩ := hb0
                  obtain ⟨a', l', c2, rfl⟩ := hs.slice_some
                  have hl : l' = sl := by cases hs <;> rfl
                  subst hl
                  obtain ⟨new', hR, hin, _⟩ := run (some a') c2
                  have h0 : new'.size = 0 := by rw [← hR.len]; exact hb1
                  have h1 : new'.toList = [] := by rw [← List.length_eq_zero_iff, Array.length_toList]; exact h0
                  have hin' := hin (by omega)
                  rw [h1] at hin'
                  have e0 : l' + n = 0 := by omega
                  rw [e0] at hin'
                  exact ⟨ρ, A, _, w, hin', .slV _ _, .refl hM⟩
              · rename_i b o m hne
                split at h
                · rename_i cur e2 hcur
                  cases hb0 : (Nat.ble (Nat.add (Nat.add o (Nat.mul sl i.size)) new.length) cur.length && new.all one) <;> rw [hb0] at h
                  · cases h
                  · simp only [cond_true, Option.some.injEq, Prod.mk.injEq] at h
                    obtain ⟨rfl, rfl⟩ := h
                    rw [Bool.and_eq_true, Nat.ble_eq, List.all_eq_true] at hb0
                    obtain ⟨hb1, hone⟩ := hb0
                    cases hs with
                    | slX _ _ _ _ hlt =>
                      obtain ⟨new', hR, hin, _⟩ := run (some ⟨(ρ b).1, o, none⟩) sc
                      obtain ⟨w', h1, h2⟩ := write_ok (P := P) hM hcur hR hone hb1
                      have hin' := hin hle'
                      simp only [add_place] at hin'
                      rw [show Nat.add o (sl * i.size) = Nat.add o (Nat.mul sl i.size) from rfl, h1] at hin'
                      exact ⟨ρ, A, _, w', hin', .slX _ _ _ _ hlt, h2⟩
                    | slO _ _ _ _ c2 hlt hcc hc0 =>
                      obtain ⟨new', hR, hin, _⟩ := run (some ⟨(ρ b).1, o, none⟩) c2
                      obtain ⟨w', h1, h2⟩ := write_ok (P := P) hM hcur hR hone hb1
                      have hin' := hin (Nat.le_trans hle' hcc)
                      simp only [add_place] at hin'
                      rw [show Nat.add o (sl * i.size) = Nat.add o (Nat.mul sl i.size) from rfl, h1] at hin'
                      exact ⟨ρ, A, _, w', hin', .slO _ _ _ _ _ hlt hcc hc0, h2⟩
                    | slV a' c2 => exact (hne rfl).elim
                · cases h
        · cases h
      · cases h
    · cases h
  · cases h
end
end Go.Proofs.YtepmjghgnhklfaaGreatDoor.det
namespace Go.Proofs.YtepmjghgnhklfaaGreatDoor.det
open Go

section
variable {D : Dat} {P : Program} {ρ : Ren} {A : Nat → Prop} {M : Mem} {w : World}

noncomputable def eLen (D : Dat) (ts : List TypeId) (x : Value) (M : Mem) : Option Value :=
  match ts with
  | [] => none
  | t :: _ =>
    (match D.un t, x with
    | some .string, .string s => some (.int .i64 (.ofNat (bl s).length))
    | some (.array n _), _ => some (.int .i64 (.ofNat n))
    | some (.pointer a), _ => (match D.un a with | some (.array n _) => some (.int .i64 (.ofNat n)) | _ => none)
    | some (.slice _), .slice _ n _ => some (.int .i64 (.ofNat n))
    | some (.map _ _), .map none => some (.int .i64 0)
    | some (.map _ _), .map (some r) => (match M.get r with | some (.map es _) => some (.int .i64 (.ofNat es.length)) | _ => none)
    | _, _ => none)
theorem a1_0 (x : Value) : (#[x] : Array Value)[0]? = some x := rfl
theorem r_getMap (hM : Rm P ρ A M w) {r : Nat} {es : List MapEntry} {cl : Nat} (h : M.get r = some (.map es cl)) :
    ∃ es', (getObj (ρ r).1).run P w = .ok (.map es' cl) w ∧ w.heap[(ρ r).1]? = some (.map es' cl) ∧ es.length = es'.size ∧ (∀ (i : Nat) (e : MapEntry), es[i]? = some e → ∃ e', es'[i]? = some e' ∧ Rme ρ A e e') := by
  obtain ⟨o', h1, h2, _⟩ := hM.obj r _ h
  cases h2 with
  | map _ es' _ hs he => exact ⟨es', by simp [getObj, Sem.run, h1], h1, hs, he⟩
theorem eLen_ok (ok : DatOk D P) {ts : Array TypeId} {ty : TypeId} {x x' v : Value} (h : eLen D ts.toList x M = some v) (hM : Rm P ρ A M w) (hx : Rv ρ A x x') : ∃ v', (Builtin.len_ ts ty #[x']).run P w = .ok v' w ∧ Rv ρ A v v' := by
  unfold eLen at h
  split at h
  · cases h
  · rename_i t tr hts
    have ht0 : ts[0]? = some t := by rw [← Array.getElem?_toList, hts]; rfl
    split at h
    · rename_i s hu
      cases hx
      simp only [Option.some.injEq] at h
      subst h
      refine ⟨_, ?_, .int _ _⟩
      simp only [Builtin.len_, ht0, a1_0, Sem.run_bind, r_un ok hu, Result.andThen_ok, Sem.run_pure, bl_size]
      rfl
    · rename_i n e hu
      simp only [Option.some.injEq] at h
      subst h
      refine ⟨_, ?_, .int _ _⟩
      simp only [Builtin.len_, ht0, a1_0, Sem.run_bind, r_un ok hu, Result.andThen_ok, Sem.run_pure]
      rfl
    · rename_i a hu
      split at h
      · rename_i n e hua
        simp only [Option.some.injEq] at h
        subst h
        refine ⟨_, ?_, .int _ _⟩
        simp only [Builtin.len_, ht0, a1_0, Sem.run_bind, r_un ok hu, r_un ok hua, Result.andThen_ok, Sem.run_pure]
        rfl
      · cases h
    · rename_i e b n c hu
      simp only [Option.some.injEq] at h
      subst h
      refine ⟨_, ?_, .int _ (.ofNat n)⟩
      have : ∃ b' c', x' = .slice b' n c' := by cases hx <;> exact ⟨_, _, rfl⟩
      obtain ⟨b', c', rfl⟩ := this
      simp only [Builtin.len_, ht0, a1_0, Sem.run_bind, r_un ok hu, Result.andThen_ok, Sem.run_pure]
      rfl
    · rename_i hu
      cases hx
      simp only [Option.some.injEq] at h
      subst h
      refine ⟨_, ?_, .int _ _⟩
      simp only [Builtin.len_, ht0, a1_0, Sem.run_bind, r_un ok hu, Result.andThen_ok, Sem.run_pure]
      rfl
    · rename_i r hu
      cases hx
      split at h
      · rename_i es cl hg
        simp only [Option.some.injEq] at h
        subst h
        obtain ⟨es', r1, _, hl, _⟩ := r_getMap hM hg
        refine ⟨_, ?_, .int _ _⟩
        simp only [Builtin.len_, ht0, a1_0, Sem.run_bind, r_un ok hu, r1, Result.andThen_ok, Sem.run_pure, hl]
        rfl
      · cases h
    · cases h
/-- cap: of a slice whose room is known -/
noncomputable def eCap (D : Dat) (ts : List TypeId) (x : Value) : Option Value :=
  match ts with
  | [] => none
  | t :: _ =>
    (match D.un t, x with
    | some (.slice _), .slice none _ c => some (.int .i64 (.ofNat c))
    | some (.slice _), .slice (some ⟨_, _, none⟩) _ c => some (.int .i64 (.ofNat c))
    | _, _ => none)
theorem eCap_ok (ok : DatOk D P) {k : Nat → Prop} {ts : Array TypeId} {ty : TypeId} {x x' v : Value} (h : eCap D ts.toList x = some v) (hx : Rv ρ k x x') (w : World) : ∃ v', (Builtin.cap_ ts ty #[x']).run P w = .ok v' w ∧ Rv ρ k v v' := by
  unfold eCap at h
  split at h
  · cases h
  · rename_i t tr hts
    have ht0 : ts[0]? = some t := by rw [← Array.getElem?_toList, hts]; rfl
    split at h
    · rename_i e l c hu
      cases hx
      simp only [Option.some.injEq] at h
      subst h
      refine ⟨_, ?_, .int _ (.ofNat c)⟩
      simp only [Builtin.cap_, ht0, a1_0, Sem.run_bind, r_un ok hu, Result.andThen_ok, Sem.run_pure]
      rfl
    · rename_i e b o l c hu
      simp only [Option.some.injEq] at h
      subst h
      refine ⟨_, ?_, .int _ (.ofNat c)⟩
      cases hx
      simp only [Builtin.cap_, ht0, a1_0, Sem.run_bind, r_un ok hu, Result.andThen_ok, Sem.run_pure]
      rfl
    · cases h
/-- bytes of cells -/
noncomputable def eBytes : List Value → Option (List UInt8)
  | [] => some []
  | .int .u8 (.ofNat n) :: r => (match eBytes r with | some l => bif Nat.blt n 256 then some (UInt8.ofNat n :: l) else none | none => none)
  | _ :: _ => none
noncomputable def eToStr (D : Dat) (src dst : TypeId) (x : Value) (M : Mem) : Option Value :=
  match D.un src, D.un dst with
  | some (.slice e), some .string =>
    (match D.un e, x with
    | some (.int .u8), .slice none _ _ => some (.string (bmk []))
    | some (.int .u8), .slice (some _) n _ => (match eSrc M 1 n x with | some cs => (match eBytes cs with | some l => some (.string (bmk l)) | none => none) | none => none)
    | _, _ => none)
  | _, _ => none
theorem eBytes_eq : ∀ (cs : List Value) (l : List UInt8), eBytes cs = some l → cs = (l.map fun b => ((b.toNat : Nat) : Int)).map (Value.int .u8)
  | [], l, h => by
    simp only [eBytes, Option.some.injEq] at h
    subst h; rfl
  | c :: cs, l, h => by
    unfold eBytes at h
    split at h
    · cases ‹_ :: _ = _›
    · rename_i n r heq
      injection heq with h1 h2
      subst h1 h2
      split at h
      · rename_i l' hl
        cases hb : Nat.blt n 256 <;> rw [hb] at h
        · cases h
        · simp only [cond_true, Option.some.injEq] at h
          subst h
          rw [Nat.blt_eq] at hb
          rw [List.map_cons, List.map_cons, ← eBytes_eq _ _ hl]
          congr 2
          show (n : Int) = _
          rw [UInt8.toNat_ofNat']
          omega
      · cases h
    · cases h
theorem RL.ints {k : Nat → Prop} {ns : List Int} {i : IntKind} {c' : Array Value} (h : RL ρ k (ns.map (Value.int i)) c') : c' = (ns.map (Value.int i)).toArray := by
  apply Array.ext_getElem?
  intro j
  by_cases hj : j < ns.length
  · have h1 : (ns.map (Value.int i))[j]? = some (.int i ns[j]) := by simp [hj]
    have h2 := h.val j _ h1
    have h3 : j < c'.size := by rw [← h.len]; simpa using hj
    rw [Array.getD_eq_getD_getElem?, Array.getElem?_eq_getElem h3] at h2
    simp only [Option.getD_some] at h2
    rw [Array.getElem?_eq_getElem h3, List.getElem?_toArray, h1]
    generalize c'[j] = y at h2
    cases h2
    rfl
  · rw [Array.getElem?_eq_none (by rw [← h.len]; simpa using hj), List.getElem?_toArray, List.getElem?_eq_none (by simpa using hj)]
theorem push_fold : ∀ (l : List UInt8) (s : ByteArray), (l.map fun b => ((b.toNat : Nat) : Int)).foldl (fun r n => r.push (UInt8.ofNat n.toNat)) s = bmk (bl s ++ l)
  | [], s => by simp [bmk, bl]
  | b :: l, s => by
    rw [List.map_cons, List.foldl_cons, push_fold l]
    congr 1
    have : bl (s.push (UInt8.ofNat (((b.toNat : Nat) : Int)).toNat)) = bl s ++ [b] := by
      unfold bl
      simp
    rw [this]
    simp
theorem eToStr_ok (ok : DatOk D P) {src dst : TypeId} {x x' v : Value} (h : eToStr D src dst x M = some v) (hM : Rm P ρ A M w) (hx : Rv ρ A x x') : ∃ v', (convert src dst x').run P w = .ok v' w ∧ Rv ρ A v v' := by
  unfold eToStr at h
  split at h
  · rename_i e hs hd
    split at h
    · rename_i l c he
      cases hx
      simp only [Option.some.injEq] at h
      subst h
      refine ⟨.string .empty, ?_, .string _⟩
      simp only [convert, Sem.run_bind, r_un ok hs, r_un ok hd, r_un ok he, Result.andThen_ok, Conv.bytesToString, Sem.run_pure]
    · rename_i a n c he
      split at h
      · rename_i cs hcs
        split at h
        · rename_i l hl
          simp only [Option.some.injEq] at h
          subst h
          obtain ⟨c', r1, rl⟩ := eSrc_ok hcs hM hx
          rw [eBytes_eq _ _ hl] at rl
          have hc := rl.ints
          have hr := r1 w rfl
          have : ∃ a' c2, x' = .slice (some a') n c2 := by cases hx <;> exact ⟨_, _, rfl⟩
          obtain ⟨a', c2, rfl⟩ := this
          simp only [Builtin.firstCells, Nat.mul_one] at hr
          rw [hc] at hr
          have hb := run_bytesToString (P := P) w a' n c2 _ hr
          refine ⟨_, ?_, .string _⟩
          simp only [convert, Sem.run_bind, r_un ok hs, r_un ok hd, r_un ok he, Result.andThen_ok]
          rw [hb, push_fold]
          rfl
        · cases h
      · cases h
    · cases h
  · cases h
def u8s (l : List UInt8) : List Value := l.map fun b => .int .u8 (.ofNat b.toNat)
noncomputable def eToBytes (D : Dat) (src dst : TypeId) (x : Value) (M : Mem) : Option (Value × Mem) :=
  match D.un src, D.un dst, x with
  | some _, some (.slice e), .string s => (match D.un e with | some (.int .u8) => mk M (.cells (u8s (bl s)) e) (opn (bl s).length) | _ => none)
  | _, _, _ => none
theorem eToBytes_ok (ok : DatOk D P) {src dst : TypeId} {x x' v : Value} {M' : Mem} (h : eToBytes D src dst x M = some (v, M')) (hc1 : ∀ e, D.un e = some (.int .u8) → P.cellsOf e = 1) (hM : Rm P ρ A M w) (hx : Rv ρ A x x') : Sv P ρ A M w (convert src dst x') v M' := by
  unfold eToBytes at h
  split at h
  · rename_i ds e s hs hd
    split at h
    · rename_i he
      cases hx
      obtain ⟨hl, hr⟩ := mk_some h
      injection hr with hr1 hr2
      subst hr1 hr2
      have h1 : St P ρ A M w ρ A M (w1 w) := hM.drew _
      have hR : RL ρ A (u8s (bl s)) (s.data.map fun b => Value.int .u8 b.toNat) := by
        have : u8s (bl s) = (s.data.map fun b => Value.int .u8 b.toNat).toList := by
          unfold u8s bl
          rw [Array.toList_map]
          rfl
        rw [this]
        exact RL.refl_zero (fun i v hi => by
          rw [Array.getElem?_toList, Array.getElem?_map] at hi
          cases hq : s.data[i]? with
          | none => rw [hq] at hi; cases hi
          | some u => rw [hq] at hi; simp only [Option.map_some, Option.some.injEq] at hi; subst hi; exact .int _ _)
      have key : ∀ cap, s.size ≤ cap → St P ρ A M w (rset ρ M.next (w.heap.size, cap)) (more A M.next) (M.alloc (.cells (u8s (bl s)) e)) { w1 w with heap := w.heap.push (.cells ((s.data.map fun b => Value.int .u8 b.toNat) ++ Array.replicate (cap - s.size) (.int .u8 0)) e (cap, cap + 1)) } := by
        intro cap hcap
        have hsz : ((s.data.map fun (b : UInt8) => Value.int .u8 b.toNat) ++ Array.replicate (cap - s.size) (Value.int .u8 0)).size = cap := by
          have : s.data.size = s.size := rfl
          simp [this]; omega
        refine h1.trans (St.alloc h1.mem hl cap ?_ ?_)
        · obtain ⟨_, _, _, _, hs2, hv2, _⟩ := hR.more (r := Array.replicate (cap - s.size) (.int .u8 0)) e
          refine .cells _ _ _ _ hs2 hv2 (fun i hi hz => ?_)
          rw [hsz] at hi
          simp only at hz
          omega
        · refine ⟨?_, Or.inr (hc1 e he)⟩
          show cap * P.cellsOf e ≤ Array.size _
          rw [hsz, hc1 e he]
          omega
      have hcut : ∃ cap, s.size ≤ cap ∧ (convert src dst (.string s)).run P w = .ok (.slice (some ⟨w.heap.size, 0, none⟩) s.size cap) { w1 w with heap := w.heap.push (.cells ((s.data.map fun b => Value.int .u8 b.toNat) ++ Array.replicate (cap - s.size) (.int .u8 0)) e (cap, cap + 1)) } := by
        refine ⟨s.size + w.tape w.drawn (.appendCap s.size 0 e) % (2 ^ 63 - s.size), Nat.le_add_right _ _, ?_⟩
        generalize hcap : s.size + w.tape w.drawn (.appendCap s.size 0 e) % (2 ^ 63 - s.size) = cap
        have hsz : ((s.data.map fun (b : UInt8) => Value.int .u8 b.toNat) ++ Array.replicate (cap - s.size) (Value.int .u8 0)).size = cap := by
          have : s.data.size = s.size := rfl
          simp [this]; omega
        have hconv : (convert src dst (.string s)).run P w = (Conv.stringToBytes e s).run P w := by
          simp only [convert, Sem.run_bind, r_un ok hs, r_un ok hd, Result.andThen_ok]
          cases ds <;> simp only [Sem.run_bind, r_un ok he, Result.andThen_ok]
        rw [hconv]
        simp only [Conv.stringToBytes, Sem.run_bind, run_choose, Question.forced, Bool.false_eq_true, if_false, Question.cut, Result.andThen_ok, newRow, run_newObj, Sem.run_pure, markStringish, run_shape, run_freeze]
        rw [hcap]
        simp only [World.shape?, Array.getElem?_push_size, Sem.run_bind, run_freeze, Result.andThen_ok, Sem.run_pure]
        congr 1
        unfold World.freeze w1
        simp only [Nat.one_ne_zero, if_false, World.mk.injEq, and_true]
        apply Array.ext_getElem?
        intro j
        rw [Array.getElem?_modify]
        by_cases hj : w.heap.size = j
        · subst hj
          rw [if_pos rfl]
          simp only [Array.getElem?_push_size, Option.map_some]
          simp [hsz]
        · rw [if_neg hj, Array.getElem?_push, Array.getElem?_push, if_neg (Ne.symm hj), if_neg (Ne.symm hj)]
      obtain ⟨cap, hcap, hrun⟩ := hcut
      refine ⟨_, _, _, _, hrun, ?_, key cap hcap⟩
      have := Rv.slO (ρ := rset ρ M.next (w.heap.size, cap)) (k := more A M.next) M.next 0 (bl s).length (bl s).length cap more_new (by rw [← bl_size]; exact hcap) (fun _ => by rw [rset_new])
      rw [rset_new] at this
      rw [bl_size]
      exact this
    · cases h
  · cases h
end
end Go.Proofs.YtepmjghgnhklfaaGreatDoor.det
namespace Go.Proofs.YtepmjghgnhklfaaGreatDoor.det
open Go

section
variable {D : Dat} {P : Program} {ρ : Ren} {A : Nat → Prop} {M : Mem} {w : World}

def EsR (ρ : Ren) (k : Nat → Prop) (es : List MapEntry) (es' : Array MapEntry) : Prop :=
  es.length = es'.size ∧ ∀ (i : Nat) (e : MapEntry), es[i]? = some e → ∃ e', es'[i]? = some e' ∧ Rme ρ k e e'
/-- the same, for lists -/
def ElR (ρ : Ren) (k : Nat → Prop) : List MapEntry → List MapEntry → Prop
  | [], [] => True
  | e :: es, e' :: es' => Rme ρ k e e' ∧ ElR ρ k es es'
  | _, _ => False
theorem ElR.of : ∀ {k : Nat → Prop} {es es' : List MapEntry}, es.length = es'.length → (∀ (i : Nat) (e : MapEntry), es[i]? = some e → ∃ e', es'[i]? = some e' ∧ Rme ρ k e e') → ElR ρ k es es'
  | _, [], [], _, _ => trivial
  | _, [], _ :: _, h, _ => by cases h
  | _, _ :: _, [], h, _ => by cases h
  | k, e :: es, e' :: es', h, h2 => by
    refine ⟨?_, ElR.of (by simpa using h) (fun i x hx => ?_)⟩
    · obtain ⟨y, h3, h4⟩ := h2 0 e rfl
      injection h3 with h3
      subst h3
      exact h4
    · exact h2 (i + 1) x hx
theorem EsR.list {k : Nat → Prop} {es : List MapEntry} {es' : Array MapEntry} (h : EsR ρ k es es') : ElR ρ k es es'.toList :=
  ElR.of (by rw [h.1, Array.length_toList]) (fun i e he => by
    obtain ⟨e', h1, h2⟩ := h.2 i e he
    exact ⟨e', by rw [Array.getElem?_toList]; exact h1, h2⟩)

/-! ### Keys -/
noncomputable def ckey (D : Dat) : Nat → TypeId → Value → Bool
  | 0, _, _ => false
  | n + 1, t, v =>
    match D.un t with
    | some (.struct fs) => (match v with | .agg cs => D.eqs t && fs.toList.all (fun f => match ePart D f.type cs.toList f.offset with | some x => ckey D n f.type x | none => false) | _ => false)
    | some (.interface _) => false
    | some (.array _ _) => false
    | some _ => true
    | none => false
theorem r_checkFields (n : Nat) (em : Bool) (t : TypeId) (cs : Array Value) (fs : Array Field) (hu : P.underlying t = some (.struct fs)) (hall : ∀ f ∈ fs.toList, f.name ≠ "_" ∧ ∃ x, (part f.type cs f.offset).run P w = .ok x w ∧ (Instr.checkKey em n f.type x).run P w = .ok () w) :
    (Instr.checkKey em (n + 1) t (.agg cs)).run P w = .ok () w := by
  have hund : (underlying t).run P w = .ok (.struct fs) w := by
    simp only [underlying, Sem.run_bind]
    show (match P.underlying t with | some d => (pure d : Sem TypeDesc) | none => stuck "no such type").run P w = _
    rw [hu]
    rfl
  simp only [Instr.checkKey, Sem.run_bind, hund, Result.andThen_ok]
  rw [← Array.forIn_toList]
  generalize fs.toList = l at hall
  induction l with
  | nil => simp
  | cons f l ih =>
    obtain ⟨hn, x, h1, h2⟩ := hall f (by simp)
    simp only [List.forIn_cons, Sem.run_bind, hn, ne_eq, not_false_eq_true, if_true, h1, h2, Result.andThen_ok, Sem.run_pure]
    exact ih (fun g hg => hall g (by simp [hg]))
theorem ckey_ok (ok : DatOk D P) (em : Bool) {k : Nat → Prop} (w : World) : ∀ (n : Nat) (t : TypeId) (v v' : Value), ckey D n t v = true → Rv ρ k v v' → ∀ m, (Instr.checkKey em (n + m) t v').run P w = .ok () w
  | 0, _, _, _, h, _, _ => by simp [ckey] at h
  | n + 1, t, v, v', h, hv, m => by
    have e : n + 1 + m = (n + m) + 1 := by omega
    rw [e]
    unfold ckey at h
    split at h
    · rename_i fs hu
      split at h
      · rename_i cs
        rw [Bool.and_eq_true, List.all_eq_true] at h
        obtain ⟨h1, h2⟩ := h
        obtain ⟨_, _, hnm⟩ := ok.eqs t h1
        cases hv with
        | agg _ xs' sx hx =>
          refine r_checkFields (n + m) em t xs' fs (ok.un _ _ hu) (fun f hf => ⟨hnm fs (ok.un _ _ hu) f (by simpa using hf), ?_⟩)
          have h3 := h2 f hf
          split at h3
          · rename_i x hp
            obtain ⟨x', p1, p2⟩ := ePart_ok ok hp sx hx w
            exact ⟨x', p1, ckey_ok ok em w n f.type x x' h3 p2 m⟩
          · cases h3
      · cases h
    · cases h
    · cases h
    · rename_i d h1 h2 h3 hu
      simp only [Instr.checkKey, Sem.run_bind, r_un ok hu, Result.andThen_ok]
      cases d <;> first | rfl | exact (h1 _ rfl).elim | exact (h2 _ rfl).elim | exact (h3 _ _ rfl).elim
    · cases h
noncomputable def eFind (D : Dat) (kt : TypeId) (key : Value) : List MapEntry → Nat → Option (Option (Nat × Value))
  | [], _ => some none
  | e :: es, i =>
    match eqv D 20 kt key e.key with
    | some true => some (some (i, e.val))
    | some false => eFind D kt key es (Nat.succ i)
    | none => none
inductive FoR (ρ : Ren) (k : Nat → Prop) (es es' : List MapEntry) (s : Nat) : Option (Nat × Value) → Option (Nat × Value) → Prop
  | none : FoR ρ k es es' s none none
  | some (i : Nat) (e e' : MapEntry) (h : es[i]? = some e) (h' : es'[i]? = some e') (hr : Rme ρ k e e') : FoR ρ k es es' s (some (s + i, e.val)) (some (s + i, e'.val))
theorem FoR.next {k : Nat → Prop} {es es' : List MapEntry} {e0 e0' : MapEntry} {s : Nat} {r r' : Option (Nat × Value)} (h : FoR ρ k es es' (s + 1) r r') : FoR ρ k (e0 :: es) (e0' :: es') s r r' := by
  cases h with
  | none => exact .none
  | some i e e' h h' hr =>
    rw [show s + 1 + i = s + (i + 1) by omega]
    exact .some (i + 1) e e' h h' hr
def simple : TypeDesc → Bool
  | .int _ | .string | .bool => true
  | _ => false
theorem sameNow_ok {kt : TypeId} {kd : TypeDesc} {x y : Value} {b : Bool} (hu : D.un kt = some kd) (hs : simple kd = true) (h : eqv D 20 kt x y = some b) : Instr.sameNow kd x y = some b := by
  unfold eqv at h
  rw [hu] at h
  cases kd <;> first | (cases hs; done) | skip
  · simp only at h
    split at h
    · exact h
    · cases h
  · simp only at h
    split at h
    · split at h
      · rename_i hk
        simp only [Option.some.injEq] at h
        subst h hk
        simp [Instr.sameNow, ieq_eq]
      · cases h
    · cases h
  · simp only at h
    split at h
    · simp only [Option.some.injEq] at h
      subst h
      simp [Instr.sameNow, bytesEq]
    · cases h
theorem findNow_ok {kt : TypeId} {kd : TypeDesc} {key : Value} {k : Nat → Prop} (hu : D.un kt = some kd) (hs : simple kd = true) : ∀ (es es' : List MapEntry) (s : Nat) (r : Option (Nat × Value)), eFind D kt key es s = some r → ElR ρ k es es' → ∃ r', Instr.findNow kd key es' s = some r' ∧ FoR ρ k es es' s r r'
  | [], [], s, r, h, _ => by
    simp only [eFind, Option.some.injEq] at h
    subst h
    exact ⟨none, rfl, .none⟩
  | [], _ :: _, _, _, _, hR => hR.elim
  | _ :: _, [], _, _, _, hR => hR.elim
  | e :: es, e' :: es', s, r, h, hR => by
    obtain ⟨h1, h2⟩ := hR
    unfold eFind at h
    split at h
    · rename_i he
      simp only [Option.some.injEq] at h
      subst h
      have := sameNow_ok hu hs he
      rw [← h1.key] at this
      refine ⟨some (s, e'.val), ?_, .some 0 e e' rfl rfl h1⟩
      simp only [Instr.findNow, this]
    · rename_i he
      have := sameNow_ok hu hs he
      rw [← h1.key] at this
      obtain ⟨r', h3, h4⟩ := findNow_ok hu hs es es' (s + 1) r h h2
      refine ⟨r', ?_, h4.next⟩
      simp only [Instr.findNow, this]
      exact h3
    · cases h
theorem findAsk_ok (ok : DatOk D P) {kt : TypeId} {key : Value} {k : Nat → Prop} (hk : Rv ρ k key key) (w : World) : ∀ (es es' : List MapEntry) (s : Nat) (r : Option (Nat × Value)), eFind D kt key es s = some r → ElR ρ k es es' → ∃ r', (Instr.findAsking kt key es' s).run P w = .ok r' w ∧ FoR ρ k es es' s r r'
  | [], [], s, r, h, _ => by
    simp only [eFind, Option.some.injEq] at h
    subst h
    exact ⟨none, rfl, .none⟩
  | [], _ :: _, _, _, _, hR => hR.elim
  | _ :: _, [], _, _, _, hR => hR.elim
  | e :: es, e' :: es', s, r, h, hR => by
    obtain ⟨h1, h2⟩ := hR
    unfold eFind at h
    have heq : ∀ b, eqv D 20 kt key e.key = some b → (Op.equal kt key e'.key).run P w = .ok b w := fun b hb => by
      have := eqv_ok ok w 20 kt key e.key key e.key b hb hk h1.kl 9980
      rw [h1.key]
      exact this
    split at h
    · rename_i he
      simp only [Option.some.injEq] at h
      subst h
      refine ⟨some (s, e'.val), ?_, .some 0 e e' rfl rfl h1⟩
      simp only [Instr.findAsking, Sem.run_bind, heq _ he, Result.andThen_ok, if_true, Sem.run_pure]
    · rename_i he
      obtain ⟨r', h3, h4⟩ := findAsk_ok ok hk w es es' (s + 1) r h h2
      refine ⟨r', ?_, h4.next⟩
      simp only [Instr.findAsking, Sem.run_bind, heq _ he, Result.andThen_ok, Bool.false_eq_true, if_false]
      exact h3
    · cases h
theorem sameNow_none {kd : TypeDesc} (hs : simple kd = false) (x y : Value) : Instr.sameNow kd x y = none := by
  cases kd <;> first | (cases hs; done) | rfl
theorem findKey_ok (ok : DatOk D P) {kt : TypeId} {key : Value} {k : Nat → Prop} {es es' : List MapEntry} {r : Option (Nat × Value)} (hu : ∃ kd, D.un kt = some kd) (hk : Rv ρ k key key) (h : eFind D kt key es 0 = some r) (hR : ElR ρ k es es') (w : World) :
    ∃ r', (Instr.findKey kt key es').run P w = .ok r' w ∧ FoR ρ k es es' 0 r r' := by
  obtain ⟨kd, hu⟩ := hu
  cases hs : simple kd
  · cases es' with
    | nil =>
      cases es with
      | nil =>
        simp only [eFind, Option.some.injEq] at h
        subst h
        refine ⟨none, ?_, .none⟩
        simp only [Instr.findKey, Sem.run_bind, r_un ok hu, Result.andThen_ok, Instr.findNow, Sem.run_pure]
      | cons _ _ => exact hR.elim
    | cons e' es' =>
      obtain ⟨r', h1, h2⟩ := findAsk_ok ok hk w _ _ 0 r h hR
      refine ⟨r', ?_, h2⟩
      simp only [Instr.findKey, Sem.run_bind, r_un ok hu, Result.andThen_ok, Instr.findNow, sameNow_none hs]
      exact h1
  · obtain ⟨r', h1, h2⟩ := findNow_ok (ρ := ρ) (k := k) hu hs es es' 0 r h hR
    refine ⟨r', ?_, h2⟩
    simp only [Instr.findKey, Sem.run_bind, r_un ok hu, Result.andThen_ok, h1, Sem.run_pure]
/-- a key without places is the machine's key -/
theorem plain_eq : ∀ (n : Nat) (v v' : Value) {k : Nat → Prop}, plain n v = true → Rv ρ k v v' → v' = v
  | 0, _, _, _, h, _ => by simp [plain] at h
  | n + 1, v, v', k, h, hv => by
    have key : ∀ (xs ys : Array Value), xs.toList.all (plain n) = true → xs.size = ys.size → (∀ i, i < xs.size → Rv ρ k (xs.getD i undef) (ys.getD i undef)) → ys = xs := by
      intro xs ys hxs hs hr
      apply Array.ext
      · exact hs.symm
      · intro i h1 h2
        rw [List.all_eq_true] at hxs
        have h3 := hr i h2
        rw [Array.getD_eq_getD_getElem?, Array.getElem?_eq_getElem h2, Array.getD_eq_getD_getElem?, Array.getElem?_eq_getElem h1] at h3
        exact plain_eq n _ _ (hxs _ (by simp)) h3
    unfold plain at h
    split at h
    case h_10 =>
      rw [Bool.and_eq_true, List.isEmpty_iff, List.isEmpty_iff] at h
      cases hv with
      | func _ fn' _ xs' _ ys' hf sx hx sy hy =>
        cases hf
        have h1 : xs' = #[] := by
          apply Array.eq_empty_of_size_eq_zero
          rw [← sx, ← Array.length_toList, h.1]; rfl
        have h2 : ys' = #[] := by
          apply Array.eq_empty_of_size_eq_zero
          rw [← sy, ← Array.length_toList, h.2]; rfl
        rename_i xs ys
        have h3 : xs = #[] := by apply Array.ext'; simpa using h.1
        have h4 : ys = #[] := by apply Array.ext'; simpa using h.2
        rw [h1, h2, h3, h4]
    case h_11 => cases hv with | iface _ _ y hy => rw [plain_eq n _ _ h hy]
    case h_12 => cases hv with | agg _ ys sx hx => rw [key _ _ h sx hx]
    case h_13 => cases hv with | tuple _ ys sx hx => rw [key _ _ h sx hx]
    case h_14 => cases h
    all_goals (cases hv; rfl)

/-! ### Reading -/
noncomputable def eLookup (D : Dat) (t : TypeId) (x key : Value) (commaOk : Bool) (M : Mem) : Option Value :=
  match D.un t with
  | some (.map kt et) =>
    (match (match x with | .map none => some [] | .map (some r) => (match M.get r with | some (.map es _) => some es | _ => none) | _ => none) with
    | some es =>
      bif plain 5 key && ckey D 5 kt key then
        (match eFind D kt key es 0, D.ti et with
        | some (some (_, v)), _ => some (bif commaOk then .tuple #[v, .bool true] else v)
        | some none, some i => (match i.zero with | some z => some (bif commaOk then .tuple #[z, .bool false] else z) | none => none)
        | _, _ => none)
      else none
    | none => none)
  | _ => none
theorem eFind_un {kt : TypeId} {n : Nat} {key : Value} (h : ckey D n kt key = true) : ∃ kd, D.un kt = some kd := by
  cases n with
  | zero => simp [ckey] at h
  | succ n =>
    unfold ckey at h
    cases hu : D.un kt with
    | none => rw [hu] at h; cases h
    | some d => exact ⟨d, rfl⟩
theorem eLookup_ok (ok : DatOk D P) (Z : DatZ D) {t : TypeId} {x x' key key' v : Value} {c : Bool} (h : eLookup D t x key c M = some v) (hM : Rm P ρ A M w) (hx : Rv ρ A x x') (hk : Rv ρ A key key') : ∃ v', (Instr.lookup t x' key' c).run P w = .ok v' w ∧ Rv ρ A v v' := by
  unfold eLookup at h
  split at h
  · rename_i kt et hu
    split at h
    · rename_i es hes
      cases hc : (plain 5 key && ckey D 5 kt key) <;> rw [hc] at h
      · cases h
      · simp only [cond_true] at h
        rw [Bool.and_eq_true] at hc
        obtain ⟨hp, hck⟩ := hc
        have hkk := plain_eq 5 key key' hp hk
        subst hkk
        have hd : ∃ es' : Array MapEntry, ElR ρ A es es'.toList ∧ ((x' = .map none ∧ es' = #[]) ∨ ∃ r cl, x' = .map (some r) ∧ (getObj r).run P w = .ok (.map es' cl) w) := by
          split at hes
          · cases hx
            simp only [Option.some.injEq] at hes
            subst hes
            exact ⟨#[], trivial, Or.inl ⟨rfl, rfl⟩⟩
          · rename_i r
            cases hx
            split at hes
            · rename_i es0 cl hg
              simp only [Option.some.injEq] at hes
              subst hes
              obtain ⟨es', r1, _, hl, he⟩ := r_getMap hM hg
              exact ⟨es', EsR.list ⟨hl, he⟩, Or.inr ⟨_, cl, rfl, r1⟩⟩
            · cases hes
          · cases hes
        obtain ⟨es', hR, hrun⟩ := hd
        have hck' := ckey_ok ok es'.isEmpty w 5 kt key' key' hck hk 9995
        have fin : ∀ r, eFind D kt key' es 0 = some r → ∃ r', (Instr.findKey kt key' es'.toList).run P w = .ok r' w ∧ FoR ρ A es es'.toList 0 r r' := fun r hr => findKey_ok ok (eFind_un hck) hk hr hR w
        have hmain : (Instr.lookup t x' key' c).run P w = ((do
            Instr.checkKey es'.isEmpty 10000 kt key'
            let (v, ok) ← match ← Instr.findKey kt key' es'.toList with
              | some (_, v) => pure (v, true)
              | none => pure (← zeroValue et, false)
            pure (if c then .tuple #[v, .bool ok] else v)) : Sem Value).run P w := by
          unfold Instr.lookup
          rw [Sem.run_bind, r_un ok hu]
          rcases hrun with ⟨rfl, rfl⟩ | ⟨r, cl, rfl, r1⟩
          · simp only [Result.andThen_ok, Sem.run_bind, Sem.run_pure]
            rfl
          · simp only [Result.andThen_ok, Sem.run_bind, r1, Sem.run_pure]
            rfl
        split at h
        · rename_i j v0 hf
          simp only [Option.some.injEq] at h
          subst h
          obtain ⟨r', h1, h2⟩ := fin _ hf
          cases h2 with
          | some i e e' he he' hr =>
            refine ⟨if c = true then .tuple #[e'.val, .bool true] else e'.val, ?_, ?_⟩
            · rw [hmain]
              simp only [Sem.run_bind, hck', h1, Result.andThen_ok, Sem.run_pure]
            · cases c
              · exact hr.val
              · exact .pair hr.val (.bool _)
        · rename_i i hf hi
          split at h
          · rename_i z hz
            simp only [Option.some.injEq] at h
            subst h
            obtain ⟨r', h1, h2⟩ := fin _ hf
            cases h2
            refine ⟨if c = true then .tuple #[z, .bool false] else z, ?_, ?_⟩
            · rw [hmain]
              simp only [Sem.run_bind, hck', h1, Result.andThen_ok, r_zero ok hi hz, Sem.run_pure]
            · have hz0 := plain_rv (ρ := ρ) (k := A) 9 z (Z.zero _ _ _ hi hz)
              cases c
              · exact hz0
              · exact .pair hz0 (.bool _)
          · cases h
        · cases h
    · cases h
  · cases h
end
end Go.Proofs.YtepmjghgnhklfaaGreatDoor.det
namespace Go.Proofs.YtepmjghgnhklfaaGreatDoor.det
open Go

section
variable {D : Dat} {P : Program} {ρ : Ren} {A : Nat → Prop} {M : Mem} {w : World}

def sameK : Value → Value → Bool
  | .int j a, .int k b => (if j = k then true else false) && ieq a b
  | .string a, .string b => leq (bl a) (bl b)
  | .bool a, .bool b => a == b
  | _, _ => false
theorem sameK_ok {a b : Value} (h : sameK a b = true) : Instr.sameBits 10000 a b = true := by
  unfold sameK at h
  split at h
  · rename_i j a k b
    rw [Bool.and_eq_true, ieq_eq] at h
    obtain ⟨h1, h2⟩ := h
    have h3 : j = k := by
      by_cases e : j = k
      · exact e
      · rw [if_neg e] at h1; cases h1
    subst h3
    show (j == j && a == b) = true
    rw [h2]
    simp
  · rename_i a b
    rw [bytesEq] at h
    exact h
  · exact h
  · cases h
theorem EsR.set {k : Nat → Prop} {es : List MapEntry} {es' : Array MapEntry} (h : EsR ρ k es es') (i : Nat) (e : MapEntry) (f : MapEntry → MapEntry) (hf : ∀ e0 e0', es[i]? = some e0 → es'[i]? = some e0' → Rme ρ k e0 e0' → Rme ρ k e (f e0')) : EsR ρ k (es.set i e) (es'.modify i f) := by
  refine ⟨by simp [h.1], fun j x hx => ?_⟩
  rw [List.getElem?_set] at hx
  rw [Array.getElem?_modify]
  by_cases hj : i = j
  · subst hj
    rw [if_pos rfl] at hx ⊢
    by_cases hl : i < es.length
    · rw [if_pos hl] at hx
      injection hx with hx
      subst hx
      obtain ⟨e', h1, h2⟩ := h.2 i es[i] (List.getElem?_eq_getElem hl)
      rw [h1]
      exact ⟨_, rfl, hf _ _ (List.getElem?_eq_getElem hl) h1 h2⟩
    · rw [if_neg hl] at hx; cases hx
  · rw [if_neg hj] at hx ⊢
    exact h.2 j x hx
theorem EsR.push {k : Nat → Prop} {es : List MapEntry} {es' : Array MapEntry} (h : EsR ρ k es es') {e e' : MapEntry} (he : Rme ρ k e e') : EsR ρ k (es ++ [e]) (es'.push e') := by
  refine ⟨by simp [h.1], fun j x hx => ?_⟩
  rw [Array.getElem?_push]
  by_cases hj : j < es.length
  · rw [List.getElem?_append_left hj] at hx
    have := h.1
    rw [if_neg (by omega)]
    exact h.2 j x hx
  · rw [List.getElem?_append_right (by omega)] at hx
    have h0 : j - es.length = 0 := by
      rcases Nat.eq_zero_or_pos (j - es.length) with h1 | h1
      · exact h1
      · rw [List.getElem?_eq_none (by simp; omega)] at hx; cases hx
    rw [h0] at hx
    simp only [List.getElem?_cons_zero, Option.some.injEq] at hx
    subst hx
    have := h.1
    rw [if_pos (by omega)]
    exact ⟨e', rfl, he⟩
theorem r_setMap {r : Nat} {es : Array MapEntry} {cl : Nat} (o : Obj) (hb : w.heap[r]? = some (.map es cl)) : (setObj r o).run P w = .ok () { w with heap := w.heap.setIfInBounds r o } := by
  simp [setObj, Sem.run, hb]
noncomputable def eMap (M : Mem) (m : Value) : Option (Nat × List MapEntry × Nat) :=
  match m with
  | .map (some r) => (match M.get r with | some (.map es cl) => some (r, es, cl) | _ => none)
  | _ => none
theorem eMap_ok {m m' : Value} {r cl : Nat} {es : List MapEntry} (h : eMap M m = some (r, es, cl)) (hM : Rm P ρ A M w) (hm : Rv ρ A m m') :
    M.get r = some (.map es cl) ∧ m' = .map (some (ρ r).1) ∧ ∃ es', (getObj (ρ r).1).run P w = .ok (.map es' cl) w ∧ w.heap[(ρ r).1]? = some (.map es' cl) ∧ EsR ρ A es es' := by
  unfold eMap at h
  split at h
  · rename_i q
    split at h
    · rename_i es0 cl0 hg
      simp only [Option.some.injEq, Prod.mk.injEq] at h
      obtain ⟨rfl, rfl, rfl⟩ := h
      cases hm
      obtain ⟨es', h1, h2, h3, h4⟩ := r_getMap hM hg
      exact ⟨hg, rfl, es', h1, h2, h3, h4⟩
    · cases h
  · cases h
theorem St.map (hM : Rm P ρ A M w) {r cl cl' : Nat} {es es2 : List MapEntry} {es2' : Array MapEntry} (hg : M.get r = some (.map es cl)) (hR : EsR ρ A es2 es2') : St P ρ A M w ρ A (M.upd r (.map es2 cl')) { w with heap := w.heap.setIfInBounds (ρ r).1 (.map es2' cl') } :=
  St.upd hM hg (.map _ _ _ hR.1 hR.2) trivial
noncomputable def eMapUpd (D : Dat) (t : TypeId) (m key val : Value) (M : Mem) : Option Mem :=
  match D.un t, eMap M m with
  | some (.map kt _), some (r, es, cl) =>
    bif plain 5 key && ckey D 5 kt key then
      (match eFind D kt key es 0 with
      | some (some (i, _)) => (match nth es i with | some e => bif sameK e.key key then some (M.upd r (.map (es.set i ⟨key, val, e.born⟩) cl)) else none | none => none)
      | some none => some (M.upd r (.map (es ++ [⟨key, val, cl⟩]) (Nat.succ cl)))
      | none => none)
    else none
  | _, _ => none
theorem eMapUpd_ok (ok : DatOk D P) {t : TypeId} {m m' key key' val val' : Value} {M' : Mem} (h : eMapUpd D t m key val M = some M') (hM : Rm P ρ A M w) (hm : Rv ρ A m m') (hk : Rv ρ A key key') (hv : Rv ρ A val val') : Su P ρ A M w (Instr.mapUpdate t m' key' val') M' := by
  unfold eMapUpd at h
  split at h
  · rename_i kt et r es cl hu he
    obtain ⟨hg, rfl, es', r1, r2, hR⟩ := eMap_ok he hM hm
    cases hc : (plain 5 key && ckey D 5 kt key) <;> rw [hc] at h
    · cases h
    · simp only [cond_true] at h
      rw [Bool.and_eq_true] at hc
      obtain ⟨hp, hck⟩ := hc
      have hkk := plain_eq 5 key key' hp hk
      subst hkk
      have hck' := ckey_ok ok false w 5 kt key' key' hck hk 9995
      split at h
      · rename_i i v0 hf
        split at h
        · rename_i e hn
          cases hs : sameK e.key key' <;> rw [hs] at h
          · cases h
          · simp only [cond_true, Option.some.injEq] at h
            subst h
            rw [nth_eq] at hn
            obtain ⟨rr, h1, h2⟩ := findKey_ok ok (eFind_un hck) hk hf hR.list w
            cases h2 with
            | some j e2 e2' he2 he2' hr =>
              rw [Nat.zero_add] at h1 hn
              rw [he2] at hn
              injection hn with hn
              subst hn
              rw [Array.getElem?_toList] at he2'
              have hst := St.map (cl' := cl) hM hg (hR.set j ⟨key', val, e2.born⟩ (fun e => { e with key := key', val := val' }) (fun e0 e0' _ _ hr2 => by
                rename_i q1 q2
                rw [he2] at q1
                injection q1 with q1
                subst q1
                exact ⟨rfl, hk, hv, hr2.born⟩))
              rw [Nat.zero_add]
              refine ⟨ρ, A, _, ?_, hst⟩
              have hsb := sameK_ok hs
              rw [← hr.key] at hsb
              simp only [Instr.mapUpdate, Sem.run_bind, r_un ok hu, Result.andThen_ok, r1, hck', h1, he2', Option.map_some, Option.getD_some, Instr.keyThatStays, hsb, if_true, Sem.run_pure, r_setMap _ r2]
        · cases h
      · rename_i hf
        simp only [Option.some.injEq] at h
        subst h
        obtain ⟨rr, h1, h2⟩ := findKey_ok ok (eFind_un hck) hk hf hR.list w
        cases h2
        have hst := St.map (cl' := Nat.succ cl) hM hg (hR.push (e := ⟨key', val, cl⟩) (e' := ⟨key', val', cl⟩) ⟨rfl, hk, hv, rfl⟩)
        refine ⟨ρ, A, _, ?_, hst⟩
        simp only [Instr.mapUpdate, Sem.run_bind, r_un ok hu, Result.andThen_ok, r1, hck', h1, r_setMap _ r2]
      · cases h
  · cases h
noncomputable def eMapEntry (D : Dat) (t : TypeId) (m key : Value) (M : Mem) : Option (Value × Mem) :=
  match D.un t, eMap M m with
  | some (.map kt et), some (r, es, cl) =>
    bif plain 5 key && ckey D 5 kt key then
      (match eFind D kt key es 0, D.ti et with
      | some (some (i, _)), _ =>
        (match nth es i with
        | some e => bif sameK e.key key then some (.tuple #[e.val, .int .i64 (.ofNat e.born)], M.upd r (.map (es.set i ⟨key, e.val, e.born⟩) cl)) else none
        | none => none)
      | some none, some ti => (match ti.zero with | some z => some (.tuple #[z, .int .i64 (.ofNat cl)], M.upd r (.map (es ++ [⟨key, z, cl⟩]) (Nat.succ cl))) | none => none)
      | _, _ => none)
    else none
  | _, _ => none
theorem eMapEntry_ok (ok : DatOk D P) (Z : DatZ D) {t : TypeId} {m m' key key' v : Value} {M' : Mem} (h : eMapEntry D t m key M = some (v, M')) (hM : Rm P ρ A M w) (hm : Rv ρ A m m') (hk : Rv ρ A key key') : Sv P ρ A M w (Instr.mapEntry t m' key') v M' := by
  unfold eMapEntry at h
  split at h
  · rename_i kt et r es cl hu he
    obtain ⟨hg, rfl, es', r1, r2, hR⟩ := eMap_ok he hM hm
    cases hc : (plain 5 key && ckey D 5 kt key) <;> rw [hc] at h
    · cases h
    · simp only [cond_true] at h
      rw [Bool.and_eq_true] at hc
      obtain ⟨hp, hck⟩ := hc
      have hkk := plain_eq 5 key key' hp hk
      subst hkk
      have hck' := ckey_ok ok false w 5 kt key' key' hck hk 9995
      split at h
      · rename_i i v0 hf
        split at h
        · rename_i e hn
          cases hs : sameK e.key key' <;> rw [hs] at h
          · cases h
          · simp only [cond_true, Option.some.injEq, Prod.mk.injEq] at h
            obtain ⟨rfl, rfl⟩ := h
            rw [nth_eq] at hn
            obtain ⟨rr, h1, h2⟩ := findKey_ok ok (eFind_un hck) hk hf hR.list w
            cases h2 with
            | some j e2 e2' he2 he2' hr =>
              rw [Nat.zero_add] at h1 hn
              rw [he2] at hn
              injection hn with hn
              subst hn
              rw [Array.getElem?_toList] at he2'
              have hst := St.map (cl' := cl) hM hg (hR.set j ⟨key', e2.val, e2.born⟩ (fun e => { e with key := key' }) (fun e0 e0' _ _ hr2 => by
                rename_i q1 q2
                rw [he2] at q1
                injection q1 with q1
                subst q1
                exact ⟨rfl, hk, hr2.val, hr2.born⟩))
              rw [Nat.zero_add]
              have hsb := sameK_ok hs
              rw [← hr.key] at hsb
              refine ⟨ρ, A, .tuple #[e2'.val, goInt e2'.born], _, ?_, .pair hr.val (by rw [hr.born]; exact .int _ _), hst⟩
              simp only [Instr.mapEntry, Sem.run_bind, r_un ok hu, Result.andThen_ok, r1, hck', h1, he2', Option.map_some, Option.getD_some, Instr.keyThatStays, hsb, if_true, Sem.run_pure, r_setMap _ r2]
        · cases h
      · rename_i ti hf hti
        split at h
        · rename_i z hz
          simp only [Option.some.injEq, Prod.mk.injEq] at h
          obtain ⟨rfl, rfl⟩ := h
          obtain ⟨rr, h1, h2⟩ := findKey_ok ok (eFind_un hck) hk hf hR.list w
          cases h2
          have hz0 := plain_rv (ρ := ρ) (k := A) 9 z (Z.zero _ _ _ hti hz)
          have hst := St.map (cl' := Nat.succ cl) hM hg (hR.push (e := ⟨key', z, cl⟩) (e' := ⟨key', z, cl⟩) ⟨rfl, hk, hz0, rfl⟩)
          refine ⟨ρ, A, .tuple #[z, goInt cl], _, ?_, .pair hz0 (.int _ _), hst⟩
          simp only [Instr.mapEntry, Sem.run_bind, r_un ok hu, Result.andThen_ok, r1, hck', h1, r_setMap _ r2, r_zero ok hti hz, Sem.run_pure]
        · cases h
      · cases h
  · cases h
/-- the place of the entry with this stamp -/
noncomputable def eBorn : List MapEntry → Nat → Nat → Option Nat
  | [], _, _ => none
  | e :: es, n, i => bif Nat.beq e.born n then some i else eBorn es n (Nat.succ i)
theorem eBorn_find : ∀ (es es' : List MapEntry) (n i j : Nat), ElR ρ A es es' → eBorn es n i = some j → ∃ q e e', j = i + q ∧ es[q]? = some e ∧ es'[q]? = some e' ∧ Rme ρ A e e' ∧ es'.findIdx? (fun e => (e.born : Int) == (n : Int)) = some q ∧ es'.find? (fun e => e.born == n) = some e'
  | [], _, _, _, _, _, h => by simp [eBorn] at h
  | _ :: _, [], _, _, _, hR, _ => hR.elim
  | e :: es, e' :: es', n, i, j, hR, h => by
    obtain ⟨h1, h2⟩ := hR
    unfold eBorn at h
    cases hb : Nat.beq e.born n <;> rw [hb] at h
    · simp only [cond_false] at h
      obtain ⟨q, x, x', h3, h4, h5, h6, h7, h8⟩ := eBorn_find es es' n (i + 1) j h2 h
      have hne : ¬ e'.born = n := fun e0 => by rw [h1.born] at e0; rw [e0, Nat.beq_refl] at hb; cases hb
      refine ⟨q + 1, x, x', by omega, h4, h5, h6, ?_, ?_⟩
      · rw [List.findIdx?_cons, h7]
        have : ((e'.born : Int) == (n : Int)) = false := by simp; omega
        simp [this]
      · rw [List.find?_cons]
        have : (e'.born == n) = false := by simpa using hne
        rw [this]
        exact h8
    · simp only [cond_true, Option.some.injEq] at h
      have he : e'.born = n := by rw [h1.born]; exact Nat.eq_of_beq_eq_true hb
      refine ⟨0, e, e', by omega, rfl, rfl, h1, ?_, ?_⟩
      · rw [List.findIdx?_cons]
        have : ((e'.born : Int) == (n : Int)) = true := by simp [he]
        simp [this]
      · rw [List.find?_cons]
        have : (e'.born == n) = true := by simp [he]
        rw [this]
noncomputable def eEntryStore (m stamp val : Value) (M : Mem) : Option Mem :=
  match eMap M m, natOf stamp with
  | some (r, es, cl), some n => (match eBorn es n 0 with | some i => (match nth es i with | some e => some (M.upd r (.map (es.set i ⟨e.key, val, e.born⟩) cl)) | none => none) | none => none)
  | _, _ => none
theorem eEntryStore_ok {t : TypeId} {m m' st st' val val' : Value} {M' : Mem} (h : eEntryStore m st val M = some M') (hM : Rm P ρ A M w) (hm : Rv ρ A m m') (hs : Rv ρ A st st') (hv : Rv ρ A val val') : Su P ρ A M w (Instr.entryStore t m' st' val') M' := by
  unfold eEntryStore at h
  split at h
  · rename_i r es cl n he hn
    obtain ⟨hg, rfl, es', r1, r2, hR⟩ := eMap_ok he hM hm
    obtain ⟨q0, rfl⟩ := natOf_some hn
    cases hs
    split at h
    · rename_i i hb
      split at h
      · rename_i e hnt
        simp only [Option.some.injEq] at h
        subst h
        rw [nth_eq] at hnt
        obtain ⟨q, e1, e1', h1, h2, h3, h4, h5, _⟩ := eBorn_find es es'.toList n 0 i hR.list hb
        rw [Nat.zero_add] at h1
        subst h1
        rw [h2] at hnt
        injection hnt with hnt
        subst hnt
        have h5' : es'.findIdx? (fun e => (e.born : Int) == (n : Int)) = some i := by
          obtain ⟨l⟩ := es'
          simpa using h5
        have hst := St.map (cl' := cl) hM hg (hR.set i ⟨e1.key, val, e1.born⟩ (fun e => { e with val := val' }) (fun e0 e0' q1 _ hr2 => by
          rw [h2] at q1
          injection q1 with q1
          subst q1
          exact ⟨hr2.key, hr2.kl, hv, hr2.born⟩))
        refine ⟨ρ, A, _, ?_, hst⟩
        simp only [Instr.entryStore, Sem.run_bind, Result.andThen_ok, r1, asInt, asIntOf, Sem.run_pure, h5', r_setMap _ r2]
      · cases h
    · cases h
  · cases h
noncomputable def eDelete (D : Dat) (ts : List TypeId) (m key : Value) (M : Mem) : Option Mem :=
  match nth ts 0, eMap M m with
  | some t, some (r, es, cl) =>
    (match D.un t with
    | some (.map kt _) =>
      bif plain 5 key && ckey D 5 kt key then
        (match eFind D kt key es 0 with
        | some (some (i, _)) => some (M.upd r (.map (es.eraseIdx i) cl))
        | some none => some (M.upd r (.map es cl))
        | none => none)
      else none
    | _ => none)
  | _, _ => none
theorem EsR.erase {k : Nat → Prop} {es : List MapEntry} {es' : Array MapEntry} (h : EsR ρ k es es') (i : Nat) (hi : i < es.length) : EsR ρ k (es.eraseIdx i) (es'.eraseIdxIfInBounds i) := by
  have hi2 : i < es'.size := by rw [← h.1]; exact hi
  have he : (es'.eraseIdxIfInBounds i) = es'.eraseIdx i hi2 := by simp [Array.eraseIdxIfInBounds, hi2]
  rw [he]
  have hl := h.list
  refine ⟨?_, fun j x hx => ?_⟩
  · rw [List.length_eraseIdx, Array.size_eraseIdx, if_pos hi, h.1]
  · rw [List.getElem?_eraseIdx] at hx
    have : (es'.eraseIdx i hi2)[j]? = if j < i then es'[j]? else es'[j + 1]? := by
      rw [← Array.getElem?_toList, Array.toList_eraseIdx, List.getElem?_eraseIdx]
      simp
    rw [this]
    by_cases hj : j < i
    · rw [if_pos hj] at hx ⊢; exact h.2 j x hx
    · rw [if_neg hj] at hx ⊢; exact h.2 (j + 1) x hx
theorem eDelete_ok (ok : DatOk D P) {ts : Array TypeId} {ty : TypeId} {m m' key key' : Value} {M' : Mem} (h : eDelete D ts.toList m key M = some M') (hM : Rm P ρ A M w) (hm : Rv ρ A m m') (hk : Rv ρ A key key') : Sv P ρ A M w (Builtin.delete_ ts ty #[m', key']) (.tuple #[]) M' := by
  unfold eDelete at h
  split at h
  · rename_i t r es cl ht he
    rw [nth_eq, Array.getElem?_toList] at ht
    obtain ⟨hg, rfl, es', r1, r2, hR⟩ := eMap_ok he hM hm
    split at h
    · rename_i kt et hu
      cases hc : (plain 5 key && ckey D 5 kt key) <;> rw [hc] at h
      · cases h
      · simp only [cond_true] at h
        rw [Bool.and_eq_true] at hc
        obtain ⟨hp, hck⟩ := hc
        have hkk := plain_eq 5 key key' hp hk
        subst hkk
        have hck' := ckey_ok ok es'.isEmpty w 5 kt key' key' hck hk 9995
        split at h
        · rename_i i v0 hf
          simp only [Option.some.injEq] at h
          subst h
          obtain ⟨rr, h1, h2⟩ := findKey_ok ok (eFind_un hck) hk hf hR.list w
          cases h2 with
          | some j e2 e2' he2 he2' hr =>
            rw [Nat.zero_add] at h1 ⊢
            have hj : j < es.length := by
              rcases Nat.lt_or_ge j es.length with h | h
              · exact h
              · rw [List.getElem?_eq_none h] at he2; cases he2
            have hst := St.map (cl' := cl) hM hg (hR.erase j hj)
            refine ⟨ρ, A, .tuple #[], _, ?_, .tuple _ _ rfl (fun i hi => absurd hi (by simp)), hst⟩
            simp only [Builtin.delete_, ht, a2_0, a2_1, Sem.run_bind, r_un ok hu, Result.andThen_ok, r1, hck', h1, r_setMap _ r2, Sem.run_pure]
        · rename_i hf
          simp only [Option.some.injEq] at h
          subst h
          obtain ⟨rr, h1, h2⟩ := findKey_ok ok (eFind_un hck) hk hf hR.list w
          cases h2
          have hst := St.map (cl' := cl) hM hg hR
          refine ⟨ρ, A, .tuple #[], _, ?_, .tuple _ _ rfl (fun i hi => absurd hi (by simp)), hst⟩
          simp only [Builtin.delete_, ht, a2_0, a2_1, Sem.run_bind, r_un ok hu, Result.andThen_ok, r1, hck', h1, r_setMap _ r2, Sem.run_pure]
        · cases h
    · cases h
  · cases h
end
end Go.Proofs.YtepmjghgnhklfaaGreatDoor.det
namespace Go.Proofs.YtepmjghgnhklfaaGreatDoor.det
open Go

section
variable {D : Dat} {P : Program} {ρ : Ren} {A : Nat → Prop} {M : Mem} {w : World}

noncomputable def eRange (D : Dat) (t : TypeId) (x : Value) (M : Mem) : Option (Value × Mem) :=
  match D.un t, x with
  | some .string, .string s => mk M (.strIter s 0) at0
  | some (.map _ _), .map none => mk M (.mapIter none 0 [] 0) at0
  | some (.map _ _), .map (some r) => (match M.get r with | some (.map _ cl) => mk M (.mapIter (some r) cl [] cl) at0 | _ => none)
  | _, _ => none
theorem mk_obj {o : CObj} {o' : Obj} {v : Value} {M' : Mem} (h : mk M o at0 = some (v, M')) (hM : Rm P ρ A M w) (hR : Ro ρ A o o') (hr : Room P 0 o') {s : Sem Value} (hs : s.run P w = .ok (at0 w.heap.size) { w with heap := w.heap.push o' }) : Sv P ρ A M w s v M' := by
  obtain ⟨hl, hr2⟩ := mk_some h
  injection hr2 with h1 h2
  subst h1 h2
  refine ⟨rset ρ M.next (w.heap.size, 0), _, at0 w.heap.size, _, hs, ?_, St.alloc hM hl 0 hR hr⟩
  have := Rv.ptr (ρ := rset ρ M.next (w.heap.size, 0)) (k := more A M.next) M.next 0 more_new
  rw [rset_new] at this
  exact this
theorem eRange_ok (ok : DatOk D P) {t : TypeId} {x x' v : Value} {M' : Mem} (h : eRange D t x M = some (v, M')) (hM : Rm P ρ A M w) (hx : Rv ρ A x x') : Sv P ρ A M w (Instr.range t x') v M' := by
  unfold eRange at h
  split at h
  · rename_i s hu
    cases hx
    refine mk_obj h hM (.strIter s 0) trivial ?_
    simp only [Instr.range, Sem.run_bind, r_un ok hu, Result.andThen_ok, Sem.run_pure, run_newObj]
    rfl
  · rename_i kt et hu
    cases hx
    refine mk_obj h hM (.mapIter0 0 [] 0) trivial ?_
    simp only [Instr.range, Sem.run_bind, r_un ok hu, Result.andThen_ok, Sem.run_pure, run_newObj]
    rfl
  · rename_i kt et r hu
    cases hx with
    | map _ hlt =>
      split at h
      · rename_i es cl hg
        obtain ⟨es', r1, _, _⟩ := r_getMap hM hg
        refine mk_obj h hM (.mapIter r cl [] cl hlt) trivial ?_
        simp only [Instr.range, Sem.run_bind, r_un ok hu, Result.andThen_ok, r1, Sem.run_pure, run_newObj]
        rfl
      · cases h
  · cases h
theorem ascii {s : ByteArray} {i : Nat} {c : UInt8} (h : (bl s)[i]? = some c) (hc : c.toNat < 128) : Utf8.decode s i = (c.toNat, 1) := by
  have hlt : i < s.size := by
    rcases Nat.lt_or_ge i (bl s).length with h1 | h1
    · rw [bl_size]; exact h1
    · rw [List.getElem?_eq_none h1] at h; cases h
  have hg : s.get! (i + 0) = c := by
    unfold bl at h
    rw [Array.getElem?_toList] at h
    show s.data[i + 0]! = c
    rw [Nat.add_zero, getElem!_def, h]
  unfold Utf8.decode
  simp only [hg]
  rw [if_pos (by exact hc)]
/-- what is left of a map's entries -/
def eLeft (seen : List Nat) : List MapEntry → List MapEntry
  | [] => []
  | e :: r => bif seen.any (Nat.beq e.born) then eLeft seen r else e :: eLeft seen r
noncomputable def eNext (x : Value) (isString : Bool) (M : Mem) : Option (Value × Mem) :=
  match x with
  | .pointer (some ⟨r, 0, none⟩) =>
    (match M.get r, isString with
    | some (.strIter s pos), true =>
      (match nth (bl s) pos with
      | some c => bif Nat.blt c.toNat 128 then some (.tuple #[.bool true, .int .i64 (.ofNat pos), .int .i32 (.ofNat c.toNat)], M.upd r (.strIter s (Nat.succ pos))) else none
      | none => some (.tuple #[.bool false], M))
    | some (.mapIter none _ _ _), false => some (.tuple #[.bool false], M)
    | some (.mapIter (some m) since seen last), false =>
      (match M.get m with
      | some (.map es cl) =>
        bif !seen.isEmpty && !es.isEmpty && es.all (fun e => Nat.ble last e.born) then none
        else
          (match eLeft seen es with
          | [] => some (.tuple #[.bool false], M)
          | [e] => bif Nat.blt e.born since then some (.tuple #[.bool true, e.key, e.val], M.upd r (.mapIter (some m) since (seen ++ [e.born]) cl)) else none
          | _ => none)
      | _ => none)
    | _, _ => none)
  | _ => none
theorem contains_any (seen : List Nat) (n : Nat) : seen.contains n = seen.any (Nat.beq n) := by
  induction seen with
  | nil => rfl
  | cons a l ih =>
    rw [List.contains_cons, List.any_cons, ih, Tr.beq_dec]
    congr 1
theorem eLeft_ok (seen : List Nat) : ∀ {k : Nat → Prop} (es es' : List MapEntry), ElR ρ k es es' → ElR ρ k (eLeft seen es) (es'.filter fun e => !seen.contains e.born)
  | _, [], [], _ => trivial
  | _, [], _ :: _, h => h.elim
  | _, _ :: _, [], h => h.elim
  | k, e :: es, e' :: es', h => by
    obtain ⟨h1, h2⟩ := h
    unfold eLeft
    rw [List.filter_cons, h1.born, contains_any]
    cases seen.any (Nat.beq e.born)
    · exact ⟨h1, eLeft_ok seen es es' h2⟩
    · exact eLeft_ok seen es es' h2
theorem all_ok (last : Nat) : ∀ {k : Nat → Prop} (es es' : List MapEntry), ElR ρ k es es' → (es'.all fun e => decide (e.born ≥ last)) = es.all (fun e => Nat.ble last e.born)
  | _, [], [], _ => rfl
  | _, [], _ :: _, h => h.elim
  | _, _ :: _, [], h => h.elim
  | k, e :: es, e' :: es', h => by
    rw [List.all_cons, List.all_cons, all_ok last es es' h.2, h.1.born]
    congr 1
    rw [Bool.eq_iff_iff, Nat.ble_eq]
    simp
theorem triple {k : Nat → Prop} {a a' b b' c c' : Value} (h : Rv ρ k a a') (h2 : Rv ρ k b b') (h3 : Rv ρ k c c') : Rv ρ k (.tuple #[a, b, c]) (.tuple #[a', b', c']) := by
  refine .tuple _ _ rfl (fun i hi => ?_)
  have hi2 : i < 3 := hi
  rcases i with _ | _ | _ | i
  · exact h
  · exact h2
  · exact h3
  · omega
theorem single {k : Nat → Prop} {a a' : Value} (h : Rv ρ k a a') : Rv ρ k (.tuple #[a]) (.tuple #[a']) := by
  refine .tuple _ _ rfl (fun i hi => ?_)
  have hi2 : i < 1 := hi
  rcases i with _ | i
  · exact h
  · omega
theorem eNext_ok {x x' v : Value} {isS : Bool} {ty : TypeId} {M' : Mem} (h : eNext x isS M = some (v, M')) (hM : Rm P ρ A M w) (hx : Rv ρ A x x') : Sv P ρ A M w (Instr.next x' isS ty) v M' := by
  unfold eNext at h
  split at h
  · rename_i r
    cases hx with
    | ptr _ _ hlt =>
      split at h
      · rename_i s pos hg
        obtain ⟨o', h1, h2, _⟩ := hM.obj r _ hg
        cases h2
        have hget : (getObj (ρ r).1).run P w = .ok (.stringIter s pos) w := by simp [getObj, Sem.run, h1]
        split at h
        · rename_i c hc
          cases hb : Nat.blt c.toNat 128 <;> rw [hb] at h
          · cases h
          · simp only [cond_true, Option.some.injEq, Prod.mk.injEq] at h
            obtain ⟨rfl, rfl⟩ := h
            rw [Nat.blt_eq] at hb
            rw [nth_eq] at hc
            have hpos : pos < s.size := by
              rcases Nat.lt_or_ge pos (bl s).length with h | h
              · rw [bl_size]; exact h
              · rw [List.getElem?_eq_none h] at hc; cases hc
            have hst := St.upd hM hg (.strIter s (Nat.succ pos)) (o' := .stringIter s (pos + 1)) trivial
            refine ⟨ρ, A, .tuple #[.bool true, goInt pos, .int .i32 c.toNat], _, ?_, triple (.bool _) (.int _ _) (.int _ _), hst⟩
            simp only [Instr.next, Sem.run_bind, hget, Result.andThen_ok, hpos, if_true, ascii hc hb, Sem.run_pure]
            simp [setObj, Sem.run, h1]
        · rename_i hc
          simp only [Option.some.injEq, Prod.mk.injEq] at h
          obtain ⟨rfl, rfl⟩ := h
          rw [nth_eq] at hc
          have hpos : ¬ pos < s.size := by
            intro e
            rw [bl_size] at e
            rw [List.getElem?_eq_getElem e] at hc; cases hc
          refine ⟨ρ, A, .tuple #[.bool false], w, ?_, single (.bool _), .refl hM⟩
          simp only [Instr.next, Sem.run_bind, hget, Result.andThen_ok, hpos, if_false, Sem.run_pure]
      · rename_i a b c hg
        simp only [Option.some.injEq, Prod.mk.injEq] at h
        obtain ⟨rfl, rfl⟩ := h
        obtain ⟨o', h1, h2, _⟩ := hM.obj r _ hg
        cases h2
        have hget : (getObj (ρ r).1).run P w = .ok (.mapIter none a b.toArray c) w := by simp [getObj, Sem.run, h1]
        refine ⟨ρ, A, .tuple #[.bool false], w, ?_, single (.bool _), .refl hM⟩
        simp only [Instr.next, Sem.run_bind, hget, Result.andThen_ok, Sem.run_pure]
      · rename_i m since seen last hg
        obtain ⟨o', h1, h2, _⟩ := hM.obj r _ hg
        cases h2 with
        | mapIter _ _ _ _ hml =>
          have hget : (getObj (ρ r).1).run P w = .ok (.mapIter (some (ρ m).1) since seen.toArray last) w := by simp [getObj, Sem.run, h1]
          split at h
          · rename_i es cl hgm
            obtain ⟨es', r1, r2, hl, he⟩ := r_getMap hM hgm
            have hR : ElR ρ A es es'.toList := EsR.list ⟨hl, he⟩
            cases hc : (!seen.isEmpty && !es.isEmpty && es.all (fun e => Nat.ble last e.born)) <;> rw [hc] at h
            · simp only [cond_false] at h
              have hc2 : (!seen.toArray.isEmpty && !es'.isEmpty && es'.all (fun e => decide (e.born ≥ last))) = false := by
                rw [← hc, ← Array.all_toList, all_ok last es es'.toList hR]
                congr 2
                · simp
                · congr 1
                  cases es with
                  | nil => simp at hl; simp [Array.isEmpty, ← hl]
                  | cons _ _ => simp at hl; simp [Array.isEmpty, ← hl]
              have hleft := eLeft_ok seen es es'.toList hR
              have hfil : (es'.filter fun e => !seen.toArray.contains e.born).toList = es'.toList.filter fun e => !seen.contains e.born := by
                rw [Array.toList_filter]
                congr 1
                funext e
                simp
              split at h
              · rename_i hle
                simp only [Option.some.injEq, Prod.mk.injEq] at h
                obtain ⟨rfl, rfl⟩ := h
                rw [hle] at hleft
                have hnil : es'.toList.filter (fun e => !seen.contains e.born) = [] := by
                  cases hq : es'.toList.filter (fun e => !seen.contains e.born) with
                  | nil => rfl
                  | cons _ _ => rw [hq] at hleft; exact hleft.elim
                have hnil2 : (es'.filter fun e => !seen.toArray.contains e.born) = #[] := by
                  apply Array.ext'
                  rw [hfil, hnil]
                refine ⟨ρ, A, .tuple #[.bool false], w, ?_, single (.bool _), .refl hM⟩
                simp only [Instr.next, Sem.run_bind, hget, r1, Result.andThen_ok, hc2, Bool.false_eq_true, if_false, Sem.run_pure, hnil2]
                simp [Question.forced, Sem.run_pure]
              · rename_i e hle
                cases hb : Nat.blt e.born since <;> rw [hb] at h
                · cases h
                · simp only [cond_true, Option.some.injEq, Prod.mk.injEq] at h
                  obtain ⟨rfl, rfl⟩ := h
                  rw [Nat.blt_eq] at hb
                  rw [hle] at hleft
                  obtain ⟨e', hq, hre⟩ : ∃ e', es'.toList.filter (fun e => !seen.contains e.born) = [e'] ∧ Rme ρ A e e' := by
                    cases hq : es'.toList.filter (fun e => !seen.contains e.born) with
                    | nil => rw [hq] at hleft; exact hleft.elim
                    | cons e' r =>
                      rw [hq] at hleft
                      cases r with
                      | nil => exact ⟨e', rfl, hleft.1⟩
                      | cons _ _ => exact hleft.2.elim
                  have hone : (es'.filter fun e => !seen.toArray.contains e.born) = #[e'] := by
                    apply Array.ext'
                    rw [hfil, hq]
                  have hbe : e'.born < since := by rw [hre.born]; exact hb
                  have hst := St.upd hM hg (.mapIter m since (seen ++ [e.born]) cl hml) (o' := .mapIter (some (ρ m).1) since (seen ++ [e.born]).toArray cl) trivial
                  refine ⟨ρ, A, .tuple #[.bool true, e'.key, e'.val], _, ?_, triple (.bool _) (by rw [hre.key]; exact hre.kl) hre.val, hst⟩
                  simp only [Instr.next, Sem.run_bind, hget, r1, Result.andThen_ok, hc2, Bool.false_eq_true, if_false, Sem.run_pure, hone]
                  have f1 : (#[e'] : Array MapEntry).filter (fun x => decide (x.born < since)) = #[e'] := by simp [hbe]
                  have f2 : (#[e'] : Array MapEntry).filter (fun x => decide (x.born ≥ since)) = #[] := by simp; omega
                  rw [f1, f2]
                  simp [Question.forced, setObj, Sem.run, h1, hre.born]
              · cases h
            · cases h
          · cases h
      · cases h
  · cases h
/-- the entry at which a range stands, read again -/
noncomputable def eEntry (x : Value) (M : Mem) : Option Value :=
  match x with
  | .pointer (some ⟨r, 0, none⟩) =>
    (match M.get r with
    | some (.mapIter (some m) _ seen stepped) =>
      (match seen.getLast?, M.get m with
      | some n, some (.map es cl) => bif Nat.beq cl stepped then (match eBorn es n 0 with | some i => (match nth es i with | some e => some (.tuple #[e.key, e.val]) | none => none) | none => none) else none
      | _, _ => none)
    | _ => none)
  | _ => none
theorem eEntry_ok {x x' v : Value} (h : eEntry x M = some v) (hM : Rm P ρ A M w) (hx : Rv ρ A x x') : ∃ v', (Instr.entry x').run P w = .ok v' w ∧ Rv ρ A v v' := by
  unfold eEntry at h
  split at h
  · rename_i r
    cases hx with
    | ptr _ _ hlt =>
      split at h
      · rename_i m since seen stepped hg
        obtain ⟨o', h1, h2, _⟩ := hM.obj r _ hg
        cases h2 with
        | mapIter _ _ _ _ hml =>
          have hget : (getObj (ρ r).1).run P w = .ok (.mapIter (some (ρ m).1) since seen.toArray stepped) w := by simp [getObj, Sem.run, h1]
          split at h
          · rename_i n es cl hs hgm
            cases hb : Nat.beq cl stepped <;> rw [hb] at h
            · cases h
            · simp only [cond_true] at h
              have hcs : cl = stepped := Nat.eq_of_beq_eq_true hb
              subst hcs
              split at h
              · rename_i i hi
                split at h
                · rename_i e hn
                  simp only [Option.some.injEq] at h
                  subst h
                  obtain ⟨es', r1, r2, hl, he⟩ := r_getMap hM hgm
                  obtain ⟨q, e1, e1', q1, q2, q3, q4, _, q6⟩ := eBorn_find es es'.toList n 0 i (EsR.list ⟨hl, he⟩) hi
                  rw [Nat.zero_add] at q1
                  subst q1
                  rw [nth_eq, q2] at hn
                  injection hn with hn
                  subst hn
                  have q6' : es'.find? (fun e => e.born == n) = some e1' := by rw [← Array.find?_toList]; exact q6
                  have hbk : seen.toArray.back? = some n := by
                    rw [← hs]
                    simp
                  refine ⟨.tuple #[e1'.key, e1'.val], ?_, .pair (by rw [q4.key]; exact q4.kl) q4.val⟩
                  simp only [Instr.entry, Sem.run_bind, hget, Result.andThen_ok, hbk, r1, bne_self_eq_false, Bool.false_eq_true, if_false, Sem.run_pure, q6']
                · cases h
              · cases h
          · cases h
      · cases h
  · cases h
end
end Go.Proofs.YtepmjghgnhklfaaGreatDoor.det
namespace Go.Proofs.YtepmjghgnhklfaaGreatDoor.det
open Go

section
variable {D : Dat} {P : Program} {ρ : Ren} {A : Nat → Prop} {M : Mem} {w : World}

/-! ### Comparisons, operands and all -/
def isC : Operand → Bool
  | .const _ => true
  | _ => false
def guardOk (D : Dat) (t : TypeId) (cx cy : Bool) (a b : Value) : Bool :=
  match a, b with
  | .nilIface, .nilIface => cx || cy
  | .agg _, .agg _ => D.eqs t
  | _, _ => true
noncomputable def eBin (D : Dat) (op : BinOp) (t : TypeId) (cx cy : Bool) (a b : Value) : Option Value :=
  match a, b with
  | .int k x, .int k' y => intBin op k x k' y
  | .string x, .string y => strBin op x y
  | .float _ _, _ => none
  | .complex _ _ _, _ => none
  | a, b =>
    (match op with
    | .eql => bif guardOk D t cx cy a b then (match eqv D 20 t a b with | some r => some (.bool r) | none => none) else none
    | .neq => bif guardOk D t cx cy a b then (match eqv D 20 t a b with | some r => some (.bool (!r)) | none => none) else none
    | _ => none)
theorem r_guard_other {op : BinOp} {t : TypeId} {x y : Operand} {a b : Value} (h : op ≠ .eql ∧ op ≠ .neq) : (eqGuard op t x y a b).run P w = .ok () w := by
  unfold eqGuard
  cases op <;> first | rfl | exact absurd rfl h.1 | exact absurd rfl h.2
theorem r_guard (ok : DatOk D P) {op : BinOp} {t : TypeId} {x y : Operand} {a b a' b' : Value} {k : Nat → Prop} (ha : Rv ρ k a a') (hb : Rv ρ k b b') (h : guardOk D t (isC x) (isC y) a b = true) : (eqGuard op t x y a' b').run P w = .ok () w := by
  by_cases ho : op ≠ .eql ∧ op ≠ .neq
  · exact r_guard_other ho
  · have hop : op = .eql ∨ op = .neq := by
      by_cases h1 : op = .eql
      · exact Or.inl h1
      · exact Or.inr (Classical.byContradiction fun h2 => ho ⟨h1, h2⟩)
    clear ho
    unfold guardOk at h
    split at h
    · cases ha; cases hb
      rcases hop with rfl | rfl
      all_goals
        cases x <;> cases y <;> first | (cases h; done) | rfl
    · cases ha; cases hb
      have hg := (ok.eqs t h).1
      rcases hop with rfl | rfl
      all_goals
        simp only [eqGuard, Bool.not_true, Bool.false_eq_true, if_false, Sem.run_bind, run_program, Result.andThen_ok, hg, Bool.not_false, if_true, Sem.run_pure]
    · rename_i h1 h2
      have n1 : ∀ (_ : a' = .nilIface) (_ : b' = .nilIface), False := by
        rintro rfl rfl
        cases ha; cases hb
        exact h1 rfl rfl
      have n2 : ∀ xs ys (_ : a' = .agg xs) (_ : b' = .agg ys), False := by
        rintro xs ys rfl rfl
        cases ha; cases hb
        exact h2 _ _ rfl rfl
      rcases hop with rfl | rfl
      all_goals
        simp only [eqGuard, Bool.not_true, Bool.false_eq_true, if_false]
        rfl
theorem r_binEq {op : BinOp} {t : TypeId} {a b : Value} {r : Bool} (h : (Op.equal t a b).run P w = .ok r w) (ho : op = .eql ∨ op = .neq) (hni : ∀ k n k' m, ¬ (a = .int k n ∧ b = .int k' m)) (hns : ∀ s u, ¬ (a = .string s ∧ b = .string u))
    (hnf : ∀ k n, a ≠ .float k n) (hnc : ∀ k n m, a ≠ .complex k n m) : (binOp op t a b).run P w = .ok (.bool (if op = .eql then r else !r)) w := by
  rcases ho with rfl | rfl
  all_goals
    unfold binOp
    split <;> first
      | (rename_i h1; cases h1; done)
      | (exact absurd ⟨rfl, rfl⟩ (hni _ _ _ _))
      | (exact absurd ⟨rfl, rfl⟩ (hns _ _))
      | (exact absurd rfl (hnf _ _))
      | (exact absurd rfl (hnc _ _ _))
      | (simp only [Sem.run_bind, h, Result.andThen_ok, Sem.run_pure]; rfl)
      | contradiction
theorem eBin_ok (ok : DatOk D P) {op : BinOp} {t : TypeId} {x y : Operand} {a b a' b' v : Value} {k : Nat → Prop} (h : eBin D op t (isC x) (isC y) a b = some v) (ha : Rv ρ k a a') (hb : Rv ρ k b b') (w : World) :
    ∃ v', (do eqGuard op t x y a' b'; binOp op t a' b' : Sem Value).run P w = .ok v' w ∧ Rv ρ k v v' := by
  unfold eBin at h
  split at h
  · cases ha; cases hb
    rename_i i x0 i' y0
    have hg : (eqGuard op t x y (.int i x0) (.int i' y0)).run P w = .ok () w := r_guard ok (.int (ρ := ρ) (k := k) i x0) (.int i' y0) rfl
    have hv : ∃ q, v = q ∧ Rv ρ k v v := by
      unfold intBin at h
      refine ⟨v, rfl, ?_⟩
      split at h
      · cases hb : ilt y0 0 <;> rw [hb] at h <;> first | (cases h; done) | (simp only [cond_false, Option.some.injEq] at h; subst h; exact .int _ _)
      · cases hb : ilt y0 0 <;> rw [hb] at h <;> first | (cases h; done) | (simp only [cond_false, Option.some.injEq] at h; subst h; exact .int _ _)
      · split at h
        · split at h
          case h_4 => cases hb : ieq y0 0 <;> rw [hb] at h <;> first | (cases h; done) | (simp only [cond_false, Option.some.injEq] at h; subst h; exact .int _ _)
          case h_5 => cases hb : ieq y0 0 <;> rw [hb] at h <;> first | (cases h; done) | (simp only [cond_false, Option.some.injEq] at h; subst h; exact .int _ _)
          case h_16 => cases h
          all_goals
            simp only [Option.some.injEq] at h
            subst h
            first | exact .int _ _ | exact .bool _
        · cases h
    obtain ⟨_, _, hv⟩ := hv
    refine ⟨v, ?_, hv⟩
    simp only [Sem.run_bind, hg, Result.andThen_ok, intBin_ok h P t w]
  · cases ha; cases hb
    rename_i s u
    have hg : (eqGuard op t x y (.string s) (.string u)).run P w = .ok () w := r_guard ok (.string (ρ := ρ) (k := k) s) (.string u) rfl
    refine ⟨v, ?_, ?_⟩
    · simp only [Sem.run_bind, hg, Result.andThen_ok, strBin_ok h t w]
    · unfold strBin at h
      split at h
      case h_1 =>
        cases hb : Nat.ble (Nat.add (bl s).length (bl u).length) 9223372036854775807 <;> rw [hb] at h <;> first | (cases h; done) | (simp only [cond_true, Option.some.injEq] at h; subst h; exact .string _)
      case h_8 => cases h
      all_goals
        simp only [Option.some.injEq] at h
        subst h
        exact .bool _
  · cases h
  · cases h
  · rename_i h3 h4 h1 h2
    have n1 : ∀ k n k' m, ¬ (a' = .int k n ∧ b' = .int k' m) := by
      rintro _ _ _ _ ⟨rfl, rfl⟩
      cases ha; cases hb
      exact h1 _ _ _ _ rfl rfl
    have n2 : ∀ s u, ¬ (a' = .string s ∧ b' = .string u) := by
      rintro _ _ ⟨rfl, rfl⟩
      cases ha; cases hb
      exact h2 _ _ rfl rfl
    have n3 : ∀ k n, a' ≠ .float k n := by
      rintro _ _ rfl
      cases ha
      exact h3 _ _ rfl
    have n4 : ∀ k n m, a' ≠ .complex k n m := by
      rintro _ _ _ rfl
      cases ha
    split at h
    · cases hg : guardOk D t (isC x) (isC y) a b <;> rw [hg] at h
      · cases h
      · simp only [cond_true] at h
        split at h
        · rename_i r hr
          simp only [Option.some.injEq] at h
          subst h
          have he := eqv_ok ok w 20 t a b a' b' r hr ha hb 9980
          refine ⟨.bool r, ?_, .bool _⟩
          simp only [Sem.run_bind, r_guard ok ha hb hg, Result.andThen_ok]
          exact r_binEq he (Or.inl rfl) n1 n2 n3 n4
        · cases h
    · cases hg : guardOk D t (isC x) (isC y) a b <;> rw [hg] at h
      · cases h
      · simp only [cond_true] at h
        split at h
        · rename_i r hr
          simp only [Option.some.injEq] at h
          subst h
          have he := eqv_ok ok w 20 t a b a' b' r hr ha hb 9980
          refine ⟨.bool (!r), ?_, .bool _⟩
          simp only [Sem.run_bind, r_guard ok ha hb hg, Result.andThen_ok]
          exact r_binEq he (Or.inr rfl) n1 n2 n3 n4
        · cases h
    · cases h

/-! ### Methods -/
/-- the method that a value of a type has under a name, without a way through fields -/
noncomputable def eMeth (D : Dat) (t : TypeId) (name : String) : Option (FuncId × Bool) :=
  match D.ti t with
  | some i =>
    (match i.methods.toList.find? (fun m => m.name == name) with
    | some m => bif m.path.toList.isEmpty then m.func else none
    | none => none)
  | none => none
structure DatM (P : Program) : Prop where
  pos : ∃ m, P.types.size + Made.depth = m + 1
theorem eMeth_find {t : TypeId} {name : String} {f : FuncId} {b : Bool} (h : eMeth D t name = some (f, b)) : ∃ i m, D.ti t = some i ∧ i.methods.find? (fun m => m.name == name) = some m ∧ m.path.toList = [] ∧ m.func = some (f, b) := by
  unfold eMeth at h
  split at h
  · rename_i i hi
    split at h
    · rename_i m hm
      cases hb : m.path.toList.isEmpty <;> rw [hb] at h
      · cases h
      · simp only [cond_true] at h
        refine ⟨i, m, hi, ?_, by simpa using hb, h⟩
        rw [← Array.find?_toList]
        exact hm
    · cases h
  · cases h
noncomputable def eNil (D : Dat) (x : Value) : Option Value :=
  match x with
  | .pointer none => none
  | .nilIface => none
  | .nilFunc => none
  | .func (.method name) first cap =>
    (match nth first.toList 0 with
    | some (.iface t v) =>
      (match eMeth D t name, D.un t, v with
      | some (_, true), some _, _ => some (.func (.method name) first cap)
      | some (_, false), some (.pointer _), .pointer (some _) => some (.func (.method name) first cap)
      | some (_, false), some (.pointer _), _ => none
      | some (_, false), some _, _ => some (.func (.method name) first cap)
      | _, _, _ => none)
    | _ => none)
  | x => some x
theorem r_nilAhead (ok : DatOk D P) (DM : DatM P) {t : TypeId} {name : String} {f : FuncId} {b : Bool} {d : TypeDesc} {v : Value} (h : eMeth D t name = some (f, b)) (hu : D.un t = some d) (hb : b = true ∨ (∀ e, d ≠ .pointer e) ∨ ∃ a, v = .pointer (some a)) : (nilAhead (P.types.size + Made.depth) t v name).run P w = .ok (some false) w := by
  obtain ⟨i, m, hi, hm, hp, hf⟩ := eMeth_find h
  obtain ⟨n, hn⟩ := DM.pos
  rw [hn]
  simp only [nilAhead, Sem.run_bind, r_ti ok hi, Result.andThen_ok, hm, hp, followBlind, Sem.run_pure, hf]
  cases b with
  | true => simp only [Sem.run_pure]
  | false =>
    rcases hb with hb | hb | ⟨a, rfl⟩
    · cases hb
    · simp only [Sem.run_bind, r_un ok hu, Result.andThen_ok]
      cases d <;> first | rfl | exact absurd rfl (hb _)
    · simp only [Sem.run_bind, r_un ok hu, Result.andThen_ok]
      cases d <;> rfl
theorem eNil_ok (ok : DatOk D P) (DM : DatM P) {o : Oper} {x : Operand} {ea : Operand → Value} {a v : Value} {k : Nat → Prop} (ho : o.op = .nilCheck x) (h : eNil D a = some v) (ha : Rv ρ k a (ea x)) : ∃ v', (execOp ea o).run P w = .ok (.value v') w ∧ Rv ρ k v v' := by
  simp only [execOp, ho]
  generalize ea x = a' at ha
  unfold eNil at h
  split at h
  · cases h
  · cases h
  · cases h
  · rename_i name first cap
    cases ha with
    | func _ fn' _ xs' _ ys' hf sx hx sy hy =>
      cases hf
      split at h
      · rename_i t v0 hfirst
        rw [nth_eq, Array.getElem?_toList] at hfirst
        obtain ⟨y, hy1, hy2⟩ := getD_of sx hx hfirst
        cases hy2 with
        | iface _ _ v1 hv1 =>
          have fin : ∀ f b d, eMeth D t name = some (f, b) → D.un t = some d → (b = true ∨ (∀ e, d ≠ .pointer e) ∨ ∃ a, v1 = .pointer (some a)) → some (Value.func (.method name) first cap) = some v → ∃ v', ((match (xs'[0]? : Option Value) with
              | some .nilIface => runtimePanic .nilDeref
              | some (.iface t w) => do
                if (← nilAhead ((← program).types.size + Made.depth) t w name) != some false then
                  unsupported (.noEntry "op/nilCheck.the method's receiver behind this interface value is a nil pointer, or cannot be seen to be none, and the arguments act or may panic (ledger 612)")
                pure (.value (.func (.method name) xs' ys'))
              | _ => pure (.value (.func (.method name) xs' ys')) : Sem Next)).run P w = .ok (.value v') w ∧ Rv ρ k v v' := by
            intro f b d h1 h2 h3 h4
            simp only [Option.some.injEq] at h4
            subst h4
            refine ⟨.func (.method name) xs' ys', ?_, .func _ _ _ _ _ _ (.method _) sx hx sy hy⟩
            rw [hy1]
            simp only [Sem.run_bind, run_program, Result.andThen_ok, r_nilAhead ok DM h1 h2 h3]
            rfl
          split at h
          · rename_i f d hm hu
            exact fin _ _ _ hm hu (Or.inl rfl) h
          · rename_i f e a0 hm hu
            have : ∃ a, v1 = .pointer (some a) := by cases hv1; exact ⟨_, rfl⟩
            exact fin _ _ _ hm hu (Or.inr (Or.inr this)) h
          · cases h
          · rename_i f d hm hu hne
            exact fin _ _ _ hm hu (Or.inr (Or.inl (fun e he => by subst he; first | exact hne _ rfl | exact hne _ _ rfl | simp_all))) h
          · cases h
      · cases h
  · rename_i n1 n2 n3 n4
    simp only [Option.some.injEq] at h
    subst h
    refine ⟨a', ?_, ha⟩
    cases ha with
    | ptr0 => exact absurd rfl n1
    | nilIface => exact absurd rfl n2
    | nilFunc => exact absurd rfl n3
    | func fn fn' xs xs' ys ys' hf sx hx sy hy =>
      cases hf with
      | method m => exact absurd rfl (n4 _ _ _)
      | _ => rfl
    | _ => rfl
end
end Go.Proofs.YtepmjghgnhklfaaGreatDoor.det
namespace Go.Proofs.YtepmjghgnhklfaaGreatDoor.det
open Go

section
variable {D : Dat} {P : Program} {ρ : Ren} {A : Nat → Prop} {M : Mem} {w : World}

def eMM (lo : Bool) : Value → List Value → Option Value
  | x, [] => some x
  | .int k x, .int _ y :: r => eMM lo (.int k (bif (bif lo then ilt y x else ilt x y) then y else x)) r
  | _, _ => none
def eMinMax (lo : Bool) : List Value → Option Value
  | x :: r => (match x with | .int _ _ => eMM lo x r | _ => none)
  | [] => none
theorem eMM_ok {k : Nat → Prop} (lo : Bool) (P : Program) (w : World) : ∀ (l l' : List Value) (x x' v : Value), eMM lo x l = some v → (∃ i n, x = .int i n) → Rv ρ k x x' → l.length = l'.length → (∀ (j : Nat) (y y' : Value), l[j]? = some y → l'[j]? = some y' → Rv ρ k y y') →
    ∃ v', (l'.foldlM (if lo then Builtin.min2 else Builtin.max2) x').run P w = .ok v' w ∧ Rv ρ k v v'
  | [], [], x, x', v, h, _, hx, _, _ => by
    rw [eMM] at h
    · injection h with h
      subst h
      exact ⟨x', rfl, hx⟩
  | [], _ :: _, _, _, _, _, _, _, hl, _ => by cases hl
  | _ :: _, [], _, _, _, _, _, _, hl, _ => by cases hl
  | y :: l, y' :: l', x, x', v, h, ⟨i, n, hxi⟩, hx, hl, hv => by
    subst hxi
    unfold eMM at h
    split at h
    · cases ‹_ :: _ = []›
    · rename_i k1 x1 k2 y1 r heq hcons
      injection heq with e1 e2
      subst e1 e2
      injection hcons with e3 e4
      subst e3 e4
      cases hx
      have hy := hv 0 _ _ rfl rfl
      cases hy
      have ih := eMM_ok lo P w l l' _ (.int i (bif (bif lo then ilt y1 n else ilt n y1) then y1 else n)) v h ⟨_, _, rfl⟩ (.int _ _) (by simpa using hl) (fun j y y' h1 h2 => hv (j + 1) y y' h1 h2)
      obtain ⟨v', h1, h2⟩ := ih
      refine ⟨v', ?_, h2⟩
      rw [List.foldlM_cons, Sem.run_bind]
      have : ((if lo then Builtin.min2 else Builtin.max2) (.int i n) (.int k2 y1)).run P w = .ok (.int i (bif (bif lo then ilt y1 n else ilt n y1) then y1 else n)) w := by
        cases lo
        · simp only [Bool.false_eq_true, if_false, Builtin.max2, Sem.run_pure, cond_false, ilt_eq]
          congr 2
          by_cases hc : n < y1
          · simp [hc]
          · simp [hc]
        · simp only [if_true, Builtin.min2, Sem.run_pure, cond_true, ilt_eq]
          congr 2
          by_cases hc : y1 < n
          · simp [hc]
          · simp [hc]
      rw [this]
      exact h1
    · cases h
theorem eMinMax_ok {k : Nat → Prop} {lo : Bool} {ts : Array TypeId} {ty : TypeId} {l : List Value} {l' : Array Value} {v : Value} (h : eMinMax lo l = some v) (hl : l.length = l'.size) (hv : ∀ (j : Nat) (y y' : Value), l[j]? = some y → l'[j]? = some y' → Rv ρ k y y') (P : Program) (w : World) :
    ∃ v', (if lo then Builtin.min_ ts ty l' else Builtin.max_ ts ty l').run P w = .ok v' w ∧ Rv ρ k v v' := by
  unfold eMinMax at h
  split at h
  · rename_i x r
    split at h
    · rename_i i n
      obtain ⟨l'⟩ := l'
      cases l' with
      | nil => simp at hl
      | cons y' r' =>
        have h0 := hv 0 _ _ rfl rfl
        obtain ⟨v', h1, h2⟩ := eMM_ok lo P w r r' _ y' v h ⟨_, _, rfl⟩ h0 (by simpa using hl) (fun j y y' h1 h2 => hv (j + 1) y y' h1 (by simpa using h2))
        refine ⟨v', ?_, h2⟩
        cases lo
        · exact h1
        · exact h1
    · cases h
  · cases h
noncomputable def eBuiltin (D : Dat) (b : Builtin) (ts : List TypeId) (args : List Value) (M : Mem) : Option (Value × Mem) :=
  match b, args with
  | .append, [s, x] => eAppend D ts s x M
  | .len, [x] => (match eLen D ts x M with | some v => some (v, M) | none => none)
  | .cap, [x] => (match eCap D ts x with | some v => some (v, M) | none => none)
  | .copy, [d, s] => eCopy D ts d s M
  | .delete, [m, k] => (match eDelete D ts m k M with | some M' => some (.tuple #[], M') | none => none)
  | .min, l => (match eMinMax true l with | some v => some (v, M) | none => none)
  | .max, l => (match eMinMax false l with | some v => some (v, M) | none => none)
  | _, _ => none
def AsR (ρ : Ren) (k : Nat → Prop) (l : List Value) (l' : Array Value) : Prop := l.length = l'.size ∧ ∀ (j : Nat) (y y' : Value), l[j]? = some y → l'[j]? = some y' → Rv ρ k y y'
theorem AsR.up {ρ' : Ren} {k k' : Nat → Prop} {l : List Value} {l' : Array Value} (h : AsR ρ k l l') (hk : ∀ n, k n → k' n) (hρ : ∀ n, k n → ρ' n = ρ n) : AsR ρ' k' l l' :=
  ⟨h.1, fun j y y' h1 h2 => (h.2 j y y' h1 h2).up hk hρ⟩
theorem AsR.one {k : Nat → Prop} {x : Value} {l' : Array Value} (h : AsR ρ k [x] l') : ∃ x', l' = #[x'] ∧ Rv ρ k x x' := by
  obtain ⟨l'⟩ := l'
  have h1 := h.1
  simp at h1
  cases l' with
  | nil => simp at h1
  | cons a r =>
    cases r with
    | nil => exact ⟨a, rfl, h.2 0 _ _ rfl rfl⟩
    | cons _ _ => simp at h1
theorem AsR.two {k : Nat → Prop} {x y : Value} {l' : Array Value} (h : AsR ρ k [x, y] l') : ∃ x' y', l' = #[x', y'] ∧ Rv ρ k x x' ∧ Rv ρ k y y' := by
  obtain ⟨l'⟩ := l'
  have h1 := h.1
  simp at h1
  cases l' with
  | nil => simp at h1
  | cons a r =>
    cases r with
    | nil => simp at h1
    | cons b r =>
      cases r with
      | nil => exact ⟨a, b, rfl, h.2 0 _ _ rfl rfl, h.2 1 _ _ rfl rfl⟩
      | cons _ _ => simp at h1
/-- what an operation comes to -/
def So (P : Program) (ρ : Ren) (A : Nat → Prop) (M : Mem) (w : World) (s : Sem Next) (v : Value) (M' : Mem) : Prop :=
  ∃ ρ' A' w' v' nx, s.run P w = .ok nx w' ∧ (nx = .value v' ∨ (nx = .skip ∧ v' = undef)) ∧ Rv ρ' A' v v' ∧ St P ρ A M w ρ' A' M' w'
theorem So.ofV {s : Sem Value} {v : Value} {M' : Mem} (h : Sv P ρ A M w s v M') : So P ρ A M w (do pure (.value (← s))) v M' := by
  obtain ⟨ρ', A', v', w', h1, h2, h3⟩ := h
  exact ⟨ρ', A', w', v', _, by simp only [Sem.run_bind, h1, Result.andThen_ok, Sem.run_pure], Or.inl rfl, h2, h3⟩
theorem So.ofP {s : Sem Value} {v : Value} (hM : Rm P ρ A M w) (h : ∃ v', s.run P w = .ok v' w ∧ Rv ρ A v v') : So P ρ A M w (do pure (.value (← s))) v M := by
  obtain ⟨v', h1, h2⟩ := h
  exact ⟨ρ, A, w, v', _, by simp only [Sem.run_bind, h1, Result.andThen_ok, Sem.run_pure], Or.inl rfl, h2, .refl hM⟩
theorem So.ofU {s : Sem Unit} {M' : Mem} (h : Su P ρ A M w s M') : So P ρ A M w (do s; pure .skip) undef M' := by
  obtain ⟨ρ', A', w', h1, h3⟩ := h
  exact ⟨ρ', A', w', undef, _, by simp only [Sem.run_bind, h1, Result.andThen_ok, Sem.run_pure], Or.inr ⟨rfl, rfl⟩, .und, h3⟩
structure DatC (D : Dat) (P : Program) : Prop where
  byte : ∀ e, D.un e = some (.int .u8) → P.cellsOf e = 1
theorem eBuiltin_ok (ok : DatOk D P) (Z : DatZ D) {b : Builtin} {ts : Array TypeId} {ty : TypeId} {cs : Array Bool} {args : List Value} {args' : Array Value} {v : Value} {M' : Mem} (h : eBuiltin D b ts.toList args M = some (v, M')) (hM : Rm P ρ A M w) (ha : AsR ρ A args args') :
    So P ρ A M w (builtin b ts ty cs args') v M' := by
  unfold eBuiltin at h
  split at h
  · obtain ⟨x', y', rfl, h1, h2⟩ := ha.two
    exact So.ofV (eAppend_ok ok Z h hM h1 h2)
  · obtain ⟨x', rfl, h1⟩ := ha.one
    split at h
    · rename_i v0 he
      simp only [Option.some.injEq, Prod.mk.injEq] at h
      obtain ⟨rfl, rfl⟩ := h
      exact So.ofP hM (eLen_ok ok he hM h1)
    · cases h
  · obtain ⟨x', rfl, h1⟩ := ha.one
    split at h
    · rename_i v0 he
      simp only [Option.some.injEq, Prod.mk.injEq] at h
      obtain ⟨rfl, rfl⟩ := h
      exact So.ofP hM (eCap_ok ok he h1 w)
    · cases h
  · obtain ⟨x', y', rfl, h1, h2⟩ := ha.two
    exact So.ofV (eCopy_ok ok h hM h1 h2)
  · obtain ⟨x', y', rfl, h1, h2⟩ := ha.two
    split at h
    · rename_i M0 he
      simp only [Option.some.injEq, Prod.mk.injEq] at h
      obtain ⟨rfl, rfl⟩ := h
      exact So.ofV (eDelete_ok ok he hM h1 h2)
    · cases h
  · split at h
    · rename_i v0 he
      simp only [Option.some.injEq, Prod.mk.injEq] at h
      obtain ⟨rfl, rfl⟩ := h
      exact So.ofP hM (eMinMax_ok (ts := ts) (ty := ty) (lo := true) he ha.1 ha.2 P w)
    · cases h
  · split at h
    · rename_i v0 he
      simp only [Option.some.injEq, Prod.mk.injEq] at h
      obtain ⟨rfl, rfl⟩ := h
      exact So.ofP hM (eMinMax_ok (ts := ts) (ty := ty) (lo := false) he ha.1 ha.2 P w)
    · cases h
  · cases h
def pairM (M : Mem) : Option Value → Option (Value × Mem)
  | some v => some (v, M)
  | none => none
def unitM : Option Mem → Option (Value × Mem)
  | some M => some (undef, M)
  | none => none
noncomputable def eConvert (D : Dat) (s d : TypeId) (x : Value) (M : Mem) : Option (Value × Mem) :=
  match eConv D s d x with
  | some v => some (v, M)
  | none => (match eToStr D s d x M with | some v => some (v, M) | none => eToBytes D s d x M)
/-- an operation that enters no function -/
noncomputable def opS (D : Dat) (ev : Operand → Value) (op : Op) (M : Mem) : Option (Value × Mem) :=
  match op with
  | .move x => some (ev x, M)
  | .assign x => some (ev x, M)
  | .pick c a b => (match ev c with | .bool t => some (bif t then ev a else ev b, M) | _ => none)
  | .alloc e => eAlloc D e M
  | .box e x => eBox e (ev x) M
  | .build t ps => pairM M (eBuild D t (ps.toList.map fun p => (p.1, ev p.2)))
  | .buildSlice t n ps => eBuildSlice D t n (ps.toList.map fun p => (p.1, ev p.2)) M
  | .load t a => pairM M (eLoadAt D t (ev a) M)
  | .store t a x => unitM (eStoreAt D t (ev a) (ev x) M)
  | .nilCheck x => pairM M (eNil D (ev x))
  | .binOp op t x y _ => pairM M (eBin D op t (isC x) (isC y) (ev x) (ev y))
  | .unOp op _ x => pairM M (eUn op (ev x))
  | .convert s d x => eConvert D s d (ev x) M
  | .makeInterface t x => pairM M (eMkIf D t (ev x))
  | .makeFunc fn first cap => (match fn with | .yield _ => none | fn => some (.func fn (first.toList.map ev).toArray (cap.toList.map ev).toArray, M))
  | .makeMap _ none => mk M (.map [] 0) (fun n => .map (some n))
  | .makeSlice t l c => eMakeSlice D t (ev l) (ev c) M
  | .slice t x lo hi mx => pairM M (eSlice D t (ev x) (lo.map ev) (hi.map ev) (mx.map ev))
  | .fieldAddr s x f => pairM M (eFieldAddr D s (ev x) f)
  | .field t x f => pairM M (eField D t (ev x) f)
  | .indexAddr t x i => pairM M (eIndexAddr D t (ev x) (ev i))
  | .index t x i => pairM M (eIndex D t (ev x) (ev i))
  | .lookup t x k c => pairM M (eLookup D t (ev x) (ev k) c M)
  | .mapUpdate t m k x => unitM (eMapUpd D t (ev m) (ev k) (ev x) M)
  | .insert t m k x => unitM (eMapUpd D t (ev m) (ev k) (ev x) M)
  | .mapEntry t m k => eMapEntry D t (ev m) (ev k) M
  | .entryStore _ m s x => unitM (eEntryStore (ev m) (ev s) (ev x) M)
  | .range t x => eRange D t (ev x) M
  | .next it s => eNext (ev it) s M
  | .entry it => pairM M (eEntry (ev it) M)
  | .typeAssert x _ t c => pairM M (eAssert D (ev x) t c)
  | .extract x i => pairM M (eExtract (ev x) i)
  | .call c => (match c.callee with | .builtin b => eBuiltin D b c.argTypes.toList (c.args.toList.map ev) M | _ => none)
  | _ => none
theorem pairM_some {r : Option Value} {v : Value} {M' : Mem} (h : pairM M r = some (v, M')) : r = some v ∧ M' = M := by
  cases r with
  | none => cases h
  | some x =>
    simp only [pairM, Option.some.injEq, Prod.mk.injEq] at h
    exact ⟨by rw [h.1], h.2.symm⟩
theorem unitM_some {r : Option Mem} {v : Value} {M' : Mem} (h : unitM r = some (v, M')) : r = some M' ∧ v = undef := by
  cases r with
  | none => cases h
  | some x =>
    simp only [unitM, Option.some.injEq, Prod.mk.injEq] at h
    exact ⟨by rw [h.2], h.1.symm⟩
theorem arr_rv {k : Nat → Prop} {ev ea : Operand → Value} {xs : Array Operand} (h : ∀ x ∈ xs.toList, Rv ρ k (ev x) (ea x)) : ((xs.toList.map ev).toArray).size = (xs.map ea).size ∧ ∀ i, i < ((xs.toList.map ev).toArray).size → Rv ρ k (((xs.toList.map ev).toArray).getD i undef) ((xs.map ea).getD i undef) := by
  refine ⟨by simp, fun i hi => ?_⟩
  have hi2 : i < xs.size := by simpa using hi
  rw [Array.getD_eq_getD_getElem?, Array.getD_eq_getD_getElem?]
  simp [hi2]
  exact h _ (by simp)
theorem AsR.map {k : Nat → Prop} {ev ea : Operand → Value} {xs : Array Operand} (h : ∀ x ∈ xs.toList, Rv ρ k (ev x) (ea x)) : AsR ρ k (xs.toList.map ev) (xs.map ea) := by
  refine ⟨by simp, fun j y y' h1 h2 => ?_⟩
  rw [List.getElem?_map] at h1
  rw [Array.getElem?_map] at h2
  rw [Array.getElem?_toList] at h1
  cases hx : xs[j]? with
  | none => rw [hx] at h1; cases h1
  | some x =>
    rw [hx] at h1 h2
    simp only [Option.map_some, Option.some.injEq] at h1 h2
    subst h1 h2
    refine h x ?_
    have := Array.mem_of_getElem? hx
    simpa using this
theorem PsR.map {k : Nat → Prop} {ev ea : Operand → Value} {ps : Array (Nat × Operand)} (h : ∀ x ∈ ps.toList.map (·.2), Rv ρ k (ev x) (ea x)) : PsR ρ k (ps.toList.map fun p => (p.1, ev p.2)) (ps.map fun (i, x) => (i, ea x)).toList := by
  refine ⟨by simp, fun j x x' h1 h2 => ?_⟩
  rw [Array.toList_map, List.getElem?_map] at h2
  rw [List.getElem?_map] at h1
  cases hp : ps.toList[j]? with
  | none => rw [hp] at h1; cases h1
  | some p =>
    rw [hp] at h1 h2
    simp only [Option.map_some, Option.some.injEq] at h1 h2
    subst h1 h2
    exact ⟨rfl, h p.2 (List.mem_map.mpr ⟨p, List.mem_of_getElem? hp, rfl⟩)⟩
theorem OptR.map {k : Nat → Prop} {ev ea : Operand → Value} {x : Option Operand} (h : ∀ y ∈ x.toArray.toList, Rv ρ k (ev y) (ea y)) : OptR ρ k (x.map ev) (x.map ea) := by
  cases x with
  | none => exact OptR.nil
  | some y => exact ⟨fun z hz => by
      simp only [Option.map_some, Option.some.injEq] at hz
      subst hz
      exact ⟨_, rfl, h y (by simp)⟩, fun e => by cases e⟩
set_option maxHeartbeats 2000000 in
theorem opS_ok (ok : DatOk D P) (Z : DatZ D) (DM : DatM P) (C : DatC D P) {ev ea : Operand → Value} {o : Oper} {v : Value} {M' : Mem} (h : opS D ev o.op M = some (v, M')) (hM : Rm P ρ A M w) (H : ∀ x ∈ o.op.operands.toList, Rv ρ A (ev x) (ea x)) : So P ρ A M w (execOp ea o) v M' := by
  cases hop : o.op <;> rw [hop] at h H
  case move x =>
    simp only [opS, Option.some.injEq, Prod.mk.injEq] at h
    obtain ⟨rfl, rfl⟩ := h
    exact ⟨ρ, A, w, ea x, .value (ea x), by simp only [execOp, hop]; rfl, Or.inl rfl, H x (by simp [Op.operands]), .refl hM⟩
  case assign x =>
    simp only [opS, Option.some.injEq, Prod.mk.injEq] at h
    obtain ⟨rfl, rfl⟩ := h
    exact ⟨ρ, A, w, ea x, .value (ea x), by simp only [execOp, hop]; rfl, Or.inl rfl, H x (by simp [Op.operands]), .refl hM⟩
  case pick c a b =>
    simp only [opS] at h
    split at h
    · rename_i t hc
      simp only [Option.some.injEq, Prod.mk.injEq] at h
      obtain ⟨rfl, rfl⟩ := h
      have h1 := H c (by simp [Op.operands])
      rw [hc] at h1
      have h2 := H a (by simp [Op.operands])
      have h3 := H b (by simp [Op.operands])
      have hec : ea c = .bool t := by
        generalize ea c = q at h1
        cases h1
        rfl
      refine ⟨ρ, A, w, if t then ea a else ea b, .value (if t then ea a else ea b), ?_, Or.inl rfl, ?_, .refl hM⟩
      · simp only [execOp, hop, hec, asBool, Sem.run_bind, Sem.run_pure, Result.andThen_ok]
      · cases t
        · exact h3
        · exact h2
    · cases h
  case alloc e =>
    have := So.ofV (eAlloc_ok ok Z h hM)
    simpa only [execOp, hop] using this
  case box e x =>
    have := So.ofV (eBox_ok h hM (H x (by simp [Op.operands])))
    simpa only [execOp, hop] using this
  case build t ps =>
    obtain ⟨h1, rfl⟩ := pairM_some h
    have := So.ofP hM (eBuild_ok ok Z h1 (PsR.map (ea := ea) (fun x hx => H x (by simpa [Op.operands] using hx))) w)
    simpa only [execOp, hop] using this
  case buildSlice t n ps =>
    have := So.ofV (eBuildSlice_ok ok Z h hM (PsR.map (ea := ea) (fun x hx => H x (by simpa [Op.operands] using hx))))
    simpa only [execOp, hop] using this
  case load t a =>
    obtain ⟨h1, rfl⟩ := pairM_some h
    have := So.ofP hM (eLoadAt_ok ok h1 hM (H a (by simp [Op.operands])))
    simpa only [execOp, hop] using this
  case store t a x =>
    obtain ⟨h1, rfl⟩ := unitM_some h
    have := So.ofU (eStoreAt_ok ok h1 hM (H a (by simp [Op.operands])) (H x (by simp [Op.operands])))
    simpa only [execOp, hop] using this
  case nilCheck x =>
    obtain ⟨h1, rfl⟩ := pairM_some h
    obtain ⟨v', h2, h3⟩ := eNil_ok (w := w) ok DM hop h1 (H x (by simp [Op.operands]))
    exact ⟨ρ, A, w, v', _, h2, Or.inl rfl, h3, .refl hM⟩
  case binOp op t x y yt =>
    obtain ⟨h1, rfl⟩ := pairM_some h
    have := So.ofP hM (eBin_ok ok h1 (H x (by simp [Op.operands])) (H y (by simp [Op.operands])) w)
    simpa only [execOp, hop] using this
  case unOp op t x =>
    obtain ⟨h1, rfl⟩ := pairM_some h
    have := So.ofP hM (eUn_ok h1 (H x (by simp [Op.operands])) P w)
    simpa only [execOp, hop] using this
  case convert s d x =>
    have hx := H x (by simp [Op.operands])
    simp only [opS, eConvert] at h
    split at h
    · rename_i v0 h1
      simp only [Option.some.injEq, Prod.mk.injEq] at h
      obtain ⟨rfl, rfl⟩ := h
      have := So.ofP hM (eConv_ok ok h1 hx w)
      simpa only [execOp, hop] using this
    · split at h
      · rename_i v0 h1
        simp only [Option.some.injEq, Prod.mk.injEq] at h
        obtain ⟨rfl, rfl⟩ := h
        have := So.ofP hM (eToStr_ok ok h1 hM hx)
        simpa only [execOp, hop] using this
      · have := So.ofV (eToBytes_ok ok h C.byte hM hx)
        simpa only [execOp, hop] using this
  case makeInterface t x =>
    obtain ⟨h1, rfl⟩ := pairM_some h
    have := So.ofP hM (eMkIf_ok ok h1 (H x (by simp [Op.operands])) w)
    simpa only [execOp, hop] using this
  case makeFunc fn first cap =>
    simp only [opS] at h
    split at h
    · cases h
    · rename_i hny
      simp only [Option.some.injEq, Prod.mk.injEq] at h
      obtain ⟨rfl, rfl⟩ := h
      have a1 := arr_rv (ρ := ρ) (k := A) (ev := ev) (ea := ea) (xs := first) (fun x hx => H x (by simp [Op.operands]; simp at hx; exact Or.inl hx))
      have a2 := arr_rv (ρ := ρ) (k := A) (ev := ev) (ea := ea) (xs := cap) (fun x hx => H x (by simp [Op.operands]; simp at hx; exact Or.inr hx))
      refine ⟨ρ, A, w, .func fn (first.map ea) (cap.map ea), .value (.func fn (first.map ea) (cap.map ea)), ?_, Or.inl rfl, .func _ _ _ _ _ _ ?_ a1.1 a1.2 a2.1 a2.2, .refl hM⟩
      · simp only [execOp, hop, Instr.makeFunc, Sem.run_bind, Sem.run_pure, Result.andThen_ok]
      · cases fn with
        | yield l => exact absurd rfl (hny l)
        | func f => exact .func f
        | method m => exact .method m
        | methodOf t m => exact .methodOf t m
        | via t p f b => exact .via t p f b
  case makeMap t r =>
    cases r with
    | none =>
      simp only [opS] at h
      obtain ⟨hl, hr⟩ := mk_some h
      injection hr with h1 h2
      subst h1 h2
      refine ⟨rset ρ M.next (w.heap.size, 0), _, _, .map (some w.heap.size), .value (.map (some w.heap.size)), ?_, Or.inl rfl, ?_, St.alloc hM hl 0 (o' := .map #[] 0) (.map [] #[] 0 rfl (fun i e he => by simp at he)) trivial⟩
      · simp only [execOp, hop, Option.map_none, Instr.makeMap, Sem.run_bind, run_newObj, Sem.run_pure, Result.andThen_ok]
      · have := Rv.map (ρ := rset ρ M.next (w.heap.size, 0)) (k := more A M.next) M.next more_new
        rw [rset_new] at this
        exact this
    | some x => simp [opS] at h
  case makeSlice t l c =>
    have := So.ofV (eMakeSlice_ok ok Z h hM (H l (by simp [Op.operands])) (H c (by simp [Op.operands])))
    simpa only [execOp, hop] using this
  case slice t x lo hi mx =>
    obtain ⟨h1, rfl⟩ := pairM_some h
    have := So.ofP hM (eSlice_ok ok h1 (H x (by simp [Op.operands])) (OptR.map (ea := ea) (fun y hy => H y (by simp [Op.operands] at hy ⊢; exact Or.inr (Or.inl hy)))) (OptR.map (ea := ea) (fun y hy => H y (by simp [Op.operands] at hy ⊢; exact Or.inr (Or.inr (Or.inl hy))))) (OptR.map (ea := ea) (fun y hy => H y (by simp [Op.operands] at hy ⊢; exact Or.inr (Or.inr (Or.inr hy))))) w)
    simpa only [execOp, hop] using this
  case fieldAddr s x f =>
    obtain ⟨h1, rfl⟩ := pairM_some h
    have := So.ofP hM (eFieldAddr_ok ok h1 (H x (by simp [Op.operands])) w)
    simpa only [execOp, hop] using this
  case field t x f =>
    obtain ⟨h1, rfl⟩ := pairM_some h
    have := So.ofP hM (eField_ok ok h1 (H x (by simp [Op.operands])) w)
    simpa only [execOp, hop] using this
  case indexAddr t x i =>
    obtain ⟨h1, rfl⟩ := pairM_some h
    have := So.ofP hM (eIndexAddr_ok ok h1 (H x (by simp [Op.operands])) (H i (by simp [Op.operands])) w)
    simpa only [execOp, hop] using this
  case index t x i =>
    obtain ⟨h1, rfl⟩ := pairM_some h
    have := So.ofP hM (eIndex_ok ok h1 (H x (by simp [Op.operands])) (H i (by simp [Op.operands])) w)
    simpa only [execOp, hop] using this
  case lookup t x k c =>
    obtain ⟨h1, rfl⟩ := pairM_some h
    have := So.ofP hM (eLookup_ok ok Z h1 hM (H x (by simp [Op.operands])) (H k (by simp [Op.operands])))
    simpa only [execOp, hop] using this
  case mapUpdate t m k x =>
    obtain ⟨h1, rfl⟩ := unitM_some h
    have := So.ofU (eMapUpd_ok ok h1 hM (H m (by simp [Op.operands])) (H k (by simp [Op.operands])) (H x (by simp [Op.operands])))
    simpa only [execOp, hop] using this
  case insert t m k x =>
    obtain ⟨h1, rfl⟩ := unitM_some h
    have := So.ofU (eMapUpd_ok ok h1 hM (H m (by simp [Op.operands])) (H k (by simp [Op.operands])) (H x (by simp [Op.operands])))
    simpa only [execOp, hop] using this
  case mapEntry t m k =>
    have := So.ofV (eMapEntry_ok ok Z h hM (H m (by simp [Op.operands])) (H k (by simp [Op.operands])))
    simpa only [execOp, hop] using this
  case entryStore t m s x =>
    obtain ⟨h1, rfl⟩ := unitM_some h
    have := So.ofU (eEntryStore_ok (t := t) h1 hM (H m (by simp [Op.operands])) (H s (by simp [Op.operands])) (H x (by simp [Op.operands])))
    simpa only [execOp, hop] using this
  case range t x =>
    have := So.ofV (eRange_ok ok h hM (H x (by simp [Op.operands])))
    simpa only [execOp, hop] using this
  case next it s =>
    have := So.ofV (eNext_ok (ty := o.type) h hM (H it (by simp [Op.operands])))
    simpa only [execOp, hop] using this
  case entry it =>
    obtain ⟨h1, rfl⟩ := pairM_some h
    have := So.ofP hM (eEntry_ok h1 hM (H it (by simp [Op.operands])))
    simpa only [execOp, hop] using this
  case typeAssert x xt t c =>
    obtain ⟨h1, rfl⟩ := pairM_some h
    have := So.ofP hM (eAssert_ok (xt := xt) ok Z h1 (H x (by simp [Op.operands])) w)
    simpa only [execOp, hop] using this
  case extract x i =>
    obtain ⟨h1, rfl⟩ := pairM_some h
    have := So.ofP hM (eExtract_ok h1 (H x (by simp [Op.operands])) P w)
    simpa only [execOp, hop] using this
  case call c =>
    simp only [opS] at h
    split at h
    · rename_i b hb
      unfold So
      simp only [execOp, hop, resolve, hb, Sem.run_bind, Sem.run_pure, Result.andThen_ok, invoke]
      exact eBuiltin_ok (ty := o.type) (cs := _) (args' := c.args.map ea) ok Z h hM (AsR.map (fun x hx => H x (by simp [Op.operands, Call.operands, hb]; simpa using hx)))
    · cases h
  all_goals (simp [opS] at h)
end
end Go.Proofs.YtepmjghgnhklfaaGreatDoor.det
