/-
  A file made on an empty disk; the fuse; the power that goes: walked.
  Conditions: none.
-/
import Derived.Test.YtjmhpmhadaenjabGreatDoorFkb
import Derived.OwnWalk
import Derived.Deep.RegionWith
namespace Go.Proofs.YtjmhpmhadaenjabGreatDoor.fk
open Go.RowKit Go.Maps Go.WideMaps
set_option maxRecDepth 100000

theorem map_ne {w : World} {P : Program} {k : TypeId} {R : Value → Option (DataW Unit × List MemPlace)} {ms d n : Nat} {D : DataW Unit} {t : TypeId} {cs : Array Value} (h : w.ownsMap P k R ms n D) (hB : Blk w d t cs) : ms ≠ d := by
  rintro rfl
  obtain ⟨es, clock, h1, _⟩ := h
  unfold Blk at hB
  rw [h1] at hB
  cases hB
theorem fuse_0 (B d : Nat) (D : DataW Unit) (w : World) (h : DkB w B d D 1 (-1) false) : Calls Tryz.prog 10 #[.pointer (some ⟨d, 0, none⟩), .int .i64 0] w fun e w' => e = .returned (.tuple #[]) ∧ DkB w' B d D 1 0 false ∧ Below B w w' := by
  obtain ⟨ms, mf, ch, q, u, n, hB, hm, hn, hd, hms⟩ := h
  have c6 : w.cell? ⟨d, 6, none⟩ = some (.bool false) := (hB.cell 6).trans rfl
  have c5 : w.cell? ⟨d, 5, none⟩ = some (.int .i64 (-1)) := (hB.cell 5).trans rfl
  have f5 := hB.frozen 5
  have H := Lib.hid hB
  have HM := Lib.hid hm
  clear hB hm
  go_enter Tryz.func10, Tryz.ntmps10
  go_wp2
  go_end0
  exact ⟨rfl, ⟨ms, mf, ch, q, u, n, H.out.set_ 5 _, HM.out.setCell (map_ne HM.out H.out) _, hn, hd, hms⟩, (Below.refl _ _).setCell (by exact hd) _⟩
theorem dir_dead (B d : Nat) (D : DataW Unit) (w : World) (h : DkB w B d D 1 0 false) : Calls Tryz.prog 11 #[.pointer (some ⟨d, 0, none⟩)] w fun e w' => e = .returned (.int .i64 34) ∧ DkB w' B d D 1 0 true ∧ Below B w w' := by
  obtain ⟨ms, mf, ch, q, u, n, hB, hm, hn, hd, hms⟩ := h
  have c6 : w.cell? ⟨d, 6, none⟩ = some (.bool false) := (hB.cell 6).trans rfl
  have c5 : w.cell? ⟨d, 5, none⟩ = some (.int .i64 0) := (hB.cell 5).trans rfl
  have f6 := hB.frozen 6
  have H := Lib.hid hB
  have HM := Lib.hid hm
  clear hB hm
  go_enter Tryz.func11, Tryz.ntmps11
  go_wp2
  go_ret
  exact ⟨rfl, ⟨ms, mf, ch, q, u, n, H.out.set_ 6 _, HM.out.setCell (map_ne HM.out H.out) _, hn, hd, hms⟩, (Below.refl _ _).setCell (by exact hd) _⟩
theorem do_made (ms b : Nat) (w : World) (h : w.ownsMap Tryz.prog 9 fileR ms 0 (.map [])) : Calls Tryz.prog 325 #[.agg #[.string ⟨#[97]⟩, .pointer (some ⟨b, 0, none⟩)], .map (some ms)] w fun e w' => e = .returned (.map (some ms)) ∧ w'.ownsMap Tryz.prog 9 fileR ms 1 (.map [(.string [97], .lit (.int .u64 b))]) ∧ w.grownBy w' (some ms) := by
  have HM : Hid ((w.alloc (.cells #[.string ⟨#[97]⟩, .pointer (some ⟨b, 0, none⟩)] 90)).ownsMap Tryz.prog 9 fileR ms 0 (.map [])) := h.alloc _
  clear h
  go_enter Tryz.func325, Tryz.ntmps325
  go_wp2_with (first
    | (at_mapUpdate; go_must (refine wpList_mapUpdate_own _ rfl _ _ _ 76 rfl 9 72 lawS Tryz.underlying76 fileR ms 0 _ rfl HM.out (by unfold maxLen; omega) _ _ _ rfl rfl (keyOf_string_mk Tryz.underlying9 (by decide)) (.lit (.int .u64 b)) [] rfl ?_; intro w1 hown1 hgrow1; have HO := Lib.hid hown1; have HG := Lib.hid hgrow1; clear hown1 hgrow1))
    | fail)
  go_ret
  exact ⟨rfl, HO.out, (World.grownBy_alloc _ _ _).trans HG.out⟩
def Added (ms mf b d : Nat) (q : Int) (w : World) (e : Ending) (w' : World) : Prop := e = .returned (.tuple #[]) ∧ ∃ ch, Blk w' d 81 (DiskC ms mf ch q 0 (-1) false 1) ∧ w'.ownsMap Tryz.prog 9 fileR ms 1 (.map [(.string [97], .lit (.int .u64 b))]) ∧ ∀ B, B ≤ d → B ≤ ms → Below B w w'
theorem infoCh : (Tryz.prog.info? 139).map (fun i => (i.zero, i.size, i.bytes)) = some (some .nilIface, 1, 16) := by kernel_rfl
theorem own_one1 {w : World} {B n : Nat} {e : TypeId} {v : Value} {xs : List Value} (h : w.ownsRow B e 1 v (n + 1) xs) : ∃ A c, v = .slice A (n + 1) c := by
  rcases h.2 with ⟨_, h0⟩ | ⟨g, cap, cur, hv, _⟩
  · cases h0
  · exact ⟨_, _, hv⟩
theorem nil_made (b : Nat) : ∀ W, (nilAhead 527 90 (.agg #[.string ⟨#[97]⟩, .pointer (some ⟨b, 0, none⟩)]) "chronicle/simfs.do").run Tryz.prog W = .ok (some false) W := fun _ => by kernel_rfl
theorem meth_made (b : Nat) : ∀ W, (method 527 90 (.agg #[.string ⟨#[97]⟩, .pointer (some ⟨b, 0, none⟩)]) "chronicle/simfs.do").run Tryz.prog W = .ok (325, .agg #[.string ⟨#[97]⟩, .pointer (some ⟨b, 0, none⟩)]) W := fun _ => by kernel_rfl
theorem add_made (ms mf b d : Nat) (q : Int) (w : World) (hB : Blk w d 81 (DiskC ms mf (.slice none 0 0) q 0 (-1) false 1)) (hm : w.ownsMap Tryz.prog 9 fileR ms 0 (.map [])) : Calls Tryz.prog 28 #[.pointer (some ⟨d, 0, none⟩), .iface 90 (.agg #[.string ⟨#[97]⟩, .pointer (some ⟨b, 0, none⟩)])] w (Added ms mf b d q w) := by
  obtain ⟨i0, hi, hz0, hz1, hz2⟩ := info_parts infoCh
  have c0 : w.cell? ⟨d, 0, none⟩ = some (.map (some ms)) := (hB.cell 0).trans rfl
  have f0 := hB.frozen 0
  have H := Lib.hid hB
  have HM := Lib.hid hm
  have na := nil_made b
  have me := meth_made b
  clear hB hm
  go_enter Tryz.func28, Tryz.ntmps28
  go_wp2_with fail
  go_region_with (go_at_call 325; refine (do_made _ _ _ HM.out.drew).mono ?_; rintro e w1 ⟨rfl, hm1, hg1⟩; have H1 : Hid (Blk w1 d _ _) := (Blk.drew H.out).grown hg1 (fun e => map_ne HM.out H.out (by injection e with e; exact e.symm)); have c1 : w1.cell? ⟨d, 0, none⟩ = some (.map (some ms)) := (H1.out.cell 0).trans rfl; have f1 := H1.out.frozen 0; have HM1 := Lib.hid hm1; have HG1 := Lib.hid hg1; clear hm1 hg1)
  all_goals
    have HB : Hid (∀ B, B ≤ d → B ≤ ms → Below B w (w1.setCell ⟨d, 0, none⟩ (.map (some ms)))) := Lib.hid fun B h1 h2 => (((Below.refl _ _).drew.grown HG1.out (Nat.le_trans h1 (Nat.le_of_lt H.out.lt)) (fun k hk => by injection hk with hk; omega))).setCell (by exact h1) _
    have H2 : Hid (Blk (w1.setCell ⟨d, 0, none⟩ (.map (some ms))) d 81 (DiskC ms mf (.slice none 0 0) q 0 (-1) false 1)) := H1.out.set_ 0 _
    have HM2 : Hid ((w1.setCell ⟨d, 0, none⟩ (.map (some ms))).ownsMap Tryz.prog 9 fileR ms 1 _) := HM1.out.setCell (map_ne HM1.out H1.out) _
    clear c0 f0 na me HM H1 c1 f1 HM1 HG1
    generalize w1.setCell ⟨d, 0, none⟩ (.map (some ms)) = w2 at *
    have c2 : w2.cell? ⟨d, 2, none⟩ = some (.slice none 0 0) := (H2.out.cell 2).trans rfl
    go_wp2_with (first
      | (at_builtin; go_must (refine wpList_append_own _ rfl _ _ 77 rfl w2.heap.size 139 i0 .nilIface 1 16 Tryz.underlying77 hi hz0 hz1 hz2 rfl (by decide) _ _ _ rfl (World.ownsRow_nil _ _ _ _) ⟨w2.heap.size, 0, none⟩ 1 1 [.iface 90 (.agg #[.string ⟨#[97]⟩, .pointer (some ⟨b, 0, none⟩)])] rfl rfl (cell_one_new _ _ _) (by simp [Value.oneCell']) (by unfold maxLen; omega) (by omega) (by simp) ?_; intro v' w3 hown3 hgr3 _; have hgr4 : (w2.alloc _).grownBy w3 none := hgr3; have hown4 : w3.ownsRow w2.heap.size 139 1 v' (0 + 1) _ := hown3; obtain ⟨A3, c3, rfl⟩ := own_one1 hown4; have H3 : Hid (Blk w3 d 81 _) := (H2.out.alloc _).grown hgr4 (by simp); have c4 : w3.cell? ⟨d, 2, none⟩ = some (.slice none 0 0) := (H3.out.cell 2).trans rfl; have f4 := H3.out.frozen 2; have HM3 : Hid (w3.ownsMap Tryz.prog 9 fileR ms 1 _) := (HM2.out.alloc _).kept hgr4 (by simp); have HG3 := Lib.hid hgr4; clear hgr3 hgr4 hown3 hown4 c2))
      | fail)
    go_end0
    exact ⟨rfl, .slice A3 1 c3, H3.out.set_ 2 _, HM3.out.setCell (map_ne HM3.out H3.out) _, fun B h1 h2 => (((HB.out B h1 h2).alloc (Nat.le_trans h1 (Nat.le_of_lt H2.out.lt)) _).grown HG3.out (by simp; exact Nat.le_succ_of_le (Nat.le_trans h1 (Nat.le_of_lt H2.out.lt))) (fun k hk => by cases hk)).setCell (by exact h1) _⟩
end Go.Proofs.YtjmhpmhadaenjabGreatDoor.fk
