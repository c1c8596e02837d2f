/-
  Texts of the proof joined by a program: Tpl Tpm Tpo Paa.
-/
import Derived.Test.YtendlmdmbkcdnaaGreatDoorVy
import Derived.Deep.Slices
import Derived.Deep.Fields
import Derived.ChangeSame
import Derived.WalkKit
import Derived.ProofKit
import Derived.OpenShut
import Derived.Lib.LaidTab
import Derived.LaidSub
import Derived.Test.YtendlmdmbkcdnaaGreatDoorVp
import Derived.Test.YtendlmdmbkcdnaaGreatDoorPar
set_option linter.unusedSimpArgs false
set_option linter.unusedVariables false
namespace Go.Proofs.YtendlmdmbkcdnaaGreatDoor.tp
open Go.RowKit Go.Maps Go.WideMaps oc rc gh dk sg ma hi kd dd
open Go.Lib (hid)
set_option maxRecDepth 100000
structure Dx where
 kind : Int
 now : Int
 w : Wr
def Dx.cells (x : Dx) : Array Value := #[.int .i64 x.kind, .int .i64 x.now, .string x.w.key, .string x.w.val, .bool x.w.tomb, .int .i64 x.w.pid, .int .i64 x.w.seq]
def BookAt (w : World) (G : Gh) (β b : Nat) (all : List Rc) (firm : Nat) : Prop :=
 ∃ A c, BlkR w G b 33 #[.slice A all.length c, .int .i64 (firm : Int)] (some (β, .top)) /\ RowR w G 47 7 (.slice A all.length c) all.length (all.flatMap rcC) (some (β, .waits))
def CB (β : Nat) : Tag -> Role -> Prop := fun t r => t = .other /\ (r = some (β, .top) \/ r = some (β, .waits))
def CDo (τ β : Nat) : Tag -> Role -> Prop := fun t r => CT τ t r \/ CB β t r
theorem cdo_t {τ β : Nat} : ∀ t r, CT τ t r -> CDo τ β t r := fun _ _ h => Or.inl h
theorem cdo_b {τ β : Nat} {p : Part} (hp : p = .top \/ p = .waits) : ∀ t r, CR (some (β, p)) t r -> CDo τ β t r := by
 rintro t r ⟨h1, rfl⟩
 refine Or.inr ⟨h1, ?_⟩
 rcases hp with rfl | rfl <;> simp
theorem cdo_none {τ β : Nat} : ¬ CDo τ β .other none := by
 rintro (h | ⟨_, h⟩)
 ·exact ct_none h
 ·simp at h
theorem ct_ne {τ β : Nat} (h : β ≠ τ) {p : Part} : ¬ CT τ .other (some (β, p)) := by
 rintro (h1 | ⟨_, q, h1⟩)
 ·exact h1.1 rfl
 ·injection h1 with h1
  injection h1 with h1
  exact h h1
theorem BookAt.keep {C : Tag -> Role -> Prop} {w w' : World} {G G' : Gh} {β b : Nat} {all : List Rc} {firm : Nat} (h : BookAt w G β b all firm) (hF : Fx C G G' w w') (h1 : ¬ C .other (some (β, .top))) (h2 : ¬ C .other (some (β, .waits))) : BookAt w' G' β b all firm := by
 obtain ⟨A, c, a1, a2⟩ := h
 exact ⟨A, c, a1.keep hF h1, a2.keep hF h2⟩
theorem BookAt.below {w w' : World} {G : Gh} {β b : Nat} {all : List Rc} {firm : Nat} (h : BookAt w G β b all firm) (hb : Below w.heap.size w w') : BookAt w' G β b all firm :=
 h.keep (C := CN) (Fx.below hb) (fun h => h) (fun h => h)
def DoOut (w : World) (G : Gh) (τ β t d b : Nat) (X : TS) (q : Int) (fs : List Fil) (no L : Nat) (x : Dx) (e : Ending) (w' : World) : Prop :=
 e = .returned (.tuple #[.bool true, .bool true]) /\ ∃ G' X' fs' no' L', TopAt w' G' τ t d X' q fs' no' L' /\ BookAt w' G' β b (X'.all ++ X'.wr) X'.en /\ Fx (CDo τ β) G G' w w' /\ Stp X fs no L X' fs' no' L' /\ (x.kind = 2 -> X'.wr = [])
def MidD (w : World) (G : Gh) (τ β t d b : Nat) (X : TS) (q : Int) (fs : List Fil) (no L firm : Nat) (x : Dx) (wx : World) : Prop :=
 ∃ G' X' fs' no' L', TopAt wx G' τ t d X' q fs' no' L' /\ BookAt wx G' β b (X'.all ++ X'.wr) firm /\ Fx (CDo τ β) G G' w wx /\ Stp X fs no L X' fs' no' L' /\ (x.kind = 2 -> X'.wr = []) /\ Blk wx w.heap.size 37 x.cells /\ Is G' w.heap.size none
theorem MidD.below {w wx wy : World} {G : Gh} {τ β t d b : Nat} {X : TS} {q : Int} {fs : List Fil} {no L firm : Nat} {x : Dx} (h : MidD w G τ β t d b X q fs no L firm x wx) (hb : Below wx.heap.size wx wy) : MidD w G τ β t d b X q fs no L firm x wy := by
 obtain ⟨G', X', fs', no', L', ⟨p, h1⟩, h2, h3, h4, h5, h6, h7⟩ := h
 exact ⟨G', X', fs', no', L', ⟨p, h1.below hb⟩, h2.below hb, h3.trans (Fx.below hb), h4, h5, h6.below hb h6.lt, h7⟩
abbrev PhS2 (b s : Nat) (cs ss : Array Value) : World -> Prop := fun W => Blk W b 33 cs /\ Blk W s 41 ss
abbrev PhS3 (b s y : Nat) (cs ss ys : Array Value) : World -> Prop := fun W => Blk W b 33 cs /\ Blk W s 41 ss /\ Blk W y 37 ys
abbrev PhBk (b y : Nat) (cs ys : Array Value) : World -> Prop := fun W => Blk W b 33 cs /\ Blk W y 37 ys
theorem field_clock (a0 a1 a2 a3 a4 a5 a6 a7 a8 a9 : Int) (w : World) : (Instr.field 41 (.agg #[.int .i64 a0, .int .i64 a1, .int .i64 a2, .int .i64 a3, .int .i64 a4, .int .i64 a5, .int .i64 a6, .int .i64 a7, .int .i64 a8, .int .i64 a9]) 4).run Tryz.prog w = .ok (.int .i64 a4) w := by kernel_rfl
theorem why_vals {X : TS} {fs : List Fil} {q now : Int} {r : Rc} {er : Int} (h : Why X fs q now r er) : er ≠ 34 := by
 rcases h with ⟨h, _⟩ | ⟨_, h⟩ | ⟨h, _⟩ | ⟨h, _⟩ | ⟨h, _⟩ <;> omega
set_option maxHeartbeats 8000000 in
theorem do_any (w : World) (G : Gh) (τ β t d b : Nat) (X : TS) (q : Int) (fs : List Fil) (no L firm : Nat) (hT : TopAt w G τ t d X q fs no L) (hI : Inv X fs) (hB : BookAt w G β b (X.all ++ X.wr) firm) (hne : β ≠ τ) (hf : firm <= X.en) (hr : Room fs no L) (x : Dx) (hq : x.kind = 3 -> ((sumF fs : Nat) : Int) + 4096 <= q) :
  Calls Tryz.prog 9 #[.pointer (some ⟨b, 0, none⟩), .pointer (some ⟨t, 0, none⟩), .agg x.cells] w (DoOut w G τ β t d b X q fs no L x) := by
 have HT := hid hT
 have HI := hid hI
 have HB := hid hB
 have HNE := hid hne
 have HF := hid hf
 have HR := hid hr
 have HQ := hid hq
 have HFN : Hid (Fin G w) := by obtain ⟨p, h⟩ := hT; exact hid h.fin
 clear hT hI hB hne hf hr hq
 obtain ⟨w1, hw1⟩ : ∃ y, w.alloc (.cells x.cells 37) = y := ⟨_, rfl⟩
 have HB1 : Hid (Below w.heap.size w w1) := by rw [<- hw1]; exact hid ((Below.refl _ _).alloc (Nat.le_refl _) _)
 have HX1 : Hid (Blk w1 w.heap.size 37 x.cells) := by rw [<- hw1]; exact hid (Blk.new w _ _)
 have HZ1 : Hid (Is G w.heap.size none) := hid (HFN.out _ (Nat.le_refl _))
 obtain ⟨kd, nw, ⟨ky, vl, tb, pid, sq⟩⟩ := x
 unfold Dx.cells at hw1 ⊢
 dsimp only at hw1 ⊢
 have e0 : w1.cell? ⟨w.heap.size, 0, none⟩ = some (.int .i64 kd) := (HX1.out.cell 0).trans rfl
 have e1 : w1.cell? ⟨w.heap.size, 1, none⟩ = some (.int .i64 nw) := (HX1.out.cell 1).trans rfl
 have e2 : w1.cell? ⟨w.heap.size, 2, none⟩ = some (.string ky) := (HX1.out.cell 2).trans rfl
 have e3 : w1.cell? ⟨w.heap.size, 3, none⟩ = some (.string vl) := (HX1.out.cell 3).trans rfl
 have e4 : w1.cell? ⟨w.heap.size, 4, none⟩ = some (.bool tb) := (HX1.out.cell 4).trans rfl
 have e5 : w1.cell? ⟨w.heap.size, 5, none⟩ = some (.int .i64 pid) := (HX1.out.cell 5).trans rfl
 have e6 : w1.cell? ⟨w.heap.size, 6, none⟩ = some (.int .i64 sq) := (HX1.out.cell 6).trans rfl
 go_enter Tryz.func9, Tryz.ntmps9
 go_step
 go_step
 go_step
 go_step
 go_step
 go_step
 go_step
 go_step
 go_step
 go_step
 go_step
 go_step
 go_step
 go_step
 try rw [hw1]
 clear hw1
 refine wp_seq_var (fun K hK => ?_)
 go_cut [15] (fun _ wx => Hid (MidD w G τ β t d b X q fs no L firm ⟨kd, nw, ⟨ky, vl, tb, pid, sq⟩⟩ wx))
 case first =>
  clear hK
  by_cases hk1 : kd = 1
  ·subst hk1
   go_wp2_with fail
   have HT1 : Hid (TopAt w1 G τ t d X q fs no L) := by obtain ⟨p, h⟩ := HT.out; exact hid ⟨p, h.below HB1.out⟩
   refine (app3 w1 G τ t d X q fs no L HT1.out HI.out HR.out nw ⟨ky, vl, tb, pid, sq⟩).mono ?_
   rintro e w2 ⟨off, ag, er, G', X', fs', no', L', rfl, hT2, hx2, hS2, hcase⟩
   have HT2 := hid hT2
   have HX2 : Hid (Fx (CT τ) G G' w1 w2) := hid hx2
   have HS2 := hid hS2
   have HB2 : Hid (BookAt w2 G' β b (X.all ++ X.wr) firm) := hid ((HB.out.below HB1.out).keep hx2 (ct_ne HNE.out) (ct_ne HNE.out))
   have HXB2 : Hid (Blk w2 w.heap.size 37 (Dx.cells ⟨1, nw, ⟨ky, vl, tb, pid, sq⟩⟩)) := hid (blk_keepH HX1.out (hx2.keep _ HX1.out.lt (by rw [HZ1.out.1, HZ1.out.2]; exact ct_none)))
   have HZ2 : Hid (Is G' w.heap.size none) := hid (HZ1.out.keep hx2 HX1.out.lt)
   have HX02 : Hid (Fx (CDo τ β) G G' w w2) := hid ((Fx.below HB1.out).trans (hx2.mono cdo_t))
   clear hT2 hx2 hS2 e0 e1 e2 e3 e4 e5 e6
   rcases hcase with ⟨h1, h2, h3⟩ | ⟨rfl, rfl, h3, k, r, rfl, h4, h5, h6⟩ | ⟨rfl, rfl, rfl, h3⟩
   ·have HEND : Hid (MidD w G τ β t d b X q fs no L firm ⟨1, nw, ⟨ky, vl, tb, pid, sq⟩⟩ w2) := hid ⟨G', X', fs', no', L', HT2.out, by rw [h3]; exact HB2.out, HX02.out, HS2.out, fun h => absurd h (show ¬ (1 : Int) = 2 by decide), HXB2.out, HZ2.out⟩
    have g0 : (er == 0) = false := by simpa using h1
    have g34 : (er == 34) = false := by have := why_vals h2; simpa using this
    clear h1 h2 h3
    go_wp2_with fail
    refine wp_region_head 45 (fun W => Below w2.heap.size w2 W) (by kernel_rfl) (by kernel_rfl) (fun w3 hh3 hb3 => ?_)
    have HB3 : Hid (Below w2.heap.size w2 w3) := hid hb3
    have hne0 : Nonempty (Held (fun W => Below w2.heap.size w2 W)) := ⟨⟨_, hb3⟩⟩
    clear hh3 hb3
    refine headI_batch 0 45 (by kernel_rfl) (by kernel_rfl) HB3.out ?_
    simp only [List.take, List.drop]
    repeat (first | go_big_quiet_skip | (go_big_quiet_want; go_big_quiet_op; go_big_quiet_on))
    refine wpQuiet_nil ?_
    clear hne0
    refine headI_end (by kernel_rfl) HB3.out ?_
    simp only [List.take, List.drop]
    go_wp2_with fail
    go_meet
    exact HEND.out.below HB3.out
   ·obtain ⟨A, c, hb1, hb2⟩ := HB2.out
    obtain ⟨n, hn⟩ : ∃ n, (X.all ++ X.wr).length = n := ⟨_, rfl⟩
    have hlt : k < n := by
     rcases Nat.lt_or_ge k n with h | h
     ·exact h
     ·rw [List.getElem?_eq_none (by omega)] at h4
      cases h4
    have hnb : n <= 1073741824 := by
     rw [<- hn, List.length_append, HI.out.all]
     have := HI.out.en2
     omega
    obtain ⟨g, hA, hgl, hgc⟩ := RcsAt.of_own hb2.1 (by omega)
    have HG3 : Hid (∀ W, Below w2.heap.size w2 W -> W.cell? ⟨g, k * 7 + 3, none⟩ = some (.int .i64 pid) /\ W.cell? ⟨g, k * 7 + 4, none⟩ = some (.int .i64 sq)) := hid (fun W hW => ⟨(hW.cell (by exact hgl)).trans ((hgc k r 3 _ h4 rfl).trans (by rw [h5])), (hW.cell (by exact hgl)).trans ((hgc k r 4 _ h4 rfl).trans (by rw [h6]))⟩)
    have HG0 : Hid (∀ W, Below w2.heap.size w2 W -> W.cell? ⟨b, 0, none⟩ = some (.slice (some ⟨g, 0, none⟩) n c)) := hid (fun W hW => ((hb1.1.below hW hb1.1.lt).cell 0).trans (by rw [hA, hn]; rfl))
    have HGX : Hid (∀ W, Below w2.heap.size w2 W -> W.cell? ⟨w.heap.size, 5, none⟩ = some (.int .i64 pid) /\ W.cell? ⟨w.heap.size, 6, none⟩ = some (.int .i64 sq)) := hid (fun W hW => ⟨((HXB2.out.below hW HXB2.out.lt).cell 5).trans rfl, ((HXB2.out.below hW HXB2.out.lt).cell 6).trans rfl⟩)
    have HEND : Hid (MidD w G τ β t d b X q fs no L firm ⟨1, nw, ⟨ky, vl, tb, pid, sq⟩⟩ w2) := hid ⟨G', X', fs', no', L', HT2.out, by rw [h3]; exact HB2.out, HX02.out, HS2.out, fun h => absurd h (show ¬ (1 : Int) = 2 by decide), HXB2.out, HZ2.out⟩
    have g1 : decide ((k : Int) < 0) = false := decide_eq_false (by omega)
    have g2 : decide ((n : Int) <= (k : Int)) = false := decide_eq_false (by omega)
    have g2b : decide (n <= k) = false := decide_eq_false (by omega)
    clear h3 h4 h5 h6 hb1 hb2 hn hA hgl hgc hnb
    go_wp2_with fail
    refine wp_region_head 45 (fun W => Below w2.heap.size w2 W) (by kernel_rfl) (by kernel_rfl) (fun w3 hh3 hb3 => ?_)
    have HB3 : Hid (Below w2.heap.size w2 w3) := hid hb3
    have hne0 : Nonempty (Held (fun W => Below w2.heap.size w2 W)) := ⟨⟨_, hb3⟩⟩
    have k0 : ∀ p' : Held (fun W => Below w2.heap.size w2 W), p'.w.cell? ⟨b, 0, none⟩ = some (.slice (some ⟨g, 0, none⟩) n c) := fun p' => HG0.out _ p'.h
    have k3 : ∀ p' : Held (fun W => Below w2.heap.size w2 W), p'.w.cell? ⟨g, k * 7 + 3, none⟩ = some (.int .i64 pid) := fun p' => (HG3.out _ p'.h).1
    have k4 : ∀ p' : Held (fun W => Below w2.heap.size w2 W), p'.w.cell? ⟨g, k * 7 + 4, none⟩ = some (.int .i64 sq) := fun p' => (HG3.out _ p'.h).2
    have k5 : ∀ p' : Held (fun W => Below w2.heap.size w2 W), p'.w.cell? ⟨w.heap.size, 5, none⟩ = some (.int .i64 pid) := fun p' => (HGX.out _ p'.h).1
    have k6 : ∀ p' : Held (fun W => Below w2.heap.size w2 W), p'.w.cell? ⟨w.heap.size, 6, none⟩ = some (.int .i64 sq) := fun p' => (HGX.out _ p'.h).2
    clear hh3 hb3
    refine headI_batch 0 45 (by kernel_rfl) (by kernel_rfl) HB3.out ?_
    simp only [List.take, List.drop]
    repeat (first | go_big_quiet_skip | (go_big_quiet_want; go_big_quiet_op; go_big_quiet_on))
    refine wpQuiet_nil ?_
    clear hne0 k0 k3 k4 k5 k6
    refine headI_end (by kernel_rfl) HB3.out ?_
    simp only [List.take, List.drop]
    go_wp2_with fail
    go_meet
    exact HEND.out.below HB3.out
   ·obtain ⟨n, hn⟩ : ∃ n, X.en + X.wr.length = n := ⟨_, rfl⟩
    have hl : (X.all ++ X.wr).length = n := by rw [List.length_append, HI.out.all, hn]
    obtain ⟨A, c, hb1, hb2⟩ := HB2.out
    rw [hl] at hb1 hb2
    rw [hn] at h3 ⊢
    have HBK := hid hb1
    have HRW := hid hb2
    have HAL := hid h3
    have HNB : Hid (n <= 300800) := hid (by have := HI.out.en2; omega)
    have HST := hid (fun W (hb : Below w2.heap.size w2 W) => state_any W G' τ t d X' q fs' no' L' (by obtain ⟨p, h⟩ := HT2.out; exact ⟨p, h.below hb⟩) HS2.out.inv.sth)
    have k0 : w2.cell? ⟨b, 0, none⟩ = some (.slice A n c) := (hb1.cell 0).trans rfl
    clear h3 hb1 hb2 hl
    have HN := hid hn
    clear hn
    go_wp2_with fail
    clear k0
    obtain ⟨ck, hck⟩ : ∃ k, X'.clock = k := ⟨_, rfl⟩
    have HCK := hid hck
    clear hck
    refine wp_region_head 16 (PhBk b w.heap.size #[.slice A n c, .int .i64 (firm : Int)] (Dx.cells ⟨1, nw, ⟨ky, vl, tb, pid, sq⟩⟩)) (by kernel_rfl) (by kernel_rfl) (fun w3 hh3 hb3 => ?_)
    have HB3 : Hid (Below w2.heap.size w2 w3) := hid hb3
    have HP3 : Hid ((PhBk b w.heap.size #[.slice A n c, .int .i64 (firm : Int)] (Dx.cells ⟨1, nw, ⟨ky, vl, tb, pid, sq⟩⟩)) w3) := hid ⟨HBK.out.1.below hb3 HBK.out.1.lt, HXB2.out.below hb3 HXB2.out.lt⟩
    have hne0 : Nonempty (Held (PhBk b w.heap.size #[.slice A n c, .int .i64 (firm : Int)] (Dx.cells ⟨1, nw, ⟨ky, vl, tb, pid, sq⟩⟩))) := ⟨⟨_, HP3.out⟩⟩
    have k0 : ∀ p' : Held (PhBk b w.heap.size #[.slice A n c, .int .i64 (firm : Int)] (Dx.cells ⟨1, nw, ⟨ky, vl, tb, pid, sq⟩⟩)), p'.w.cell? ⟨b, 0, none⟩ = some (.slice A n c) := fun p' => (p'.h.1.cell 0).trans rfl
    have kE : ∀ w', (∃ p' : Held (PhBk b w.heap.size #[.slice A n c, .int .i64 (firm : Int)] (Dx.cells ⟨1, nw, ⟨ky, vl, tb, pid, sq⟩⟩)), w' = p'.w) -> ∀ (j : Nat) (v : Value), ([.string ky, .string vl, .bool tb, .int .i64 pid, .int .i64 sq] : List Value)[j]? = some v -> w'.cell? (Addr.add ⟨w.heap.size, 2, none⟩ j) = some v := by
     rintro w' ⟨p', rfl⟩ j v hj
     rw [add_flat, p'.h.2.cell, <- hj]
     rcases j with _ | _ | _ | _ | _ | j <;> first | rfl | (simp at hj)
    clear hh3 hb3
    refine headI_batch 0 9 (by kernel_rfl) (by kernel_rfl) HP3.out ?_
    simp only [List.take, List.drop]
    repeat (first | go_big_quiet_skip | (with_reducible refine wpQuiet_load_list (o := ⟨some 47, .load 35 (.tmp 46), _, _, _, _⟩) rfl 35 (.tmp 46) rfl ⟨w.heap.size, 2, none⟩ rfl [.string ky, .string vl, .bool tb, .int .i64 pid, .int .i64 sq] kE _ Tryz.underlying35 rfl (by kernel_rfl) ?_; simp only [Act.put, List.setIfInBounds_toArray, List.set_cons_succ, List.set_cons_zero]) | (go_big_quiet_want; go_big_quiet_op; go_big_quiet_on))
    refine wpQuiet_nil ?_
    clear k0 kE hne0
    refine headI_loud 9 (by kernel_rfl) (by kernel_rfl) HP3.out ?_
    simp only [List.take, List.drop]
    go_wp2_with fail
    refine (HST.out w3 HB3.out).mono ?_
    rintro e w4 ⟨⟨sa, sb, sc, rfl⟩, hb4⟩
    have HB4 : Hid (Below w2.heap.size w2 w4) := hid (HB3.out.trans (hb4.mono HB3.out.size))
    have HP4 : Hid ((PhBk b w.heap.size #[.slice A n c, .int .i64 (firm : Int)] (Dx.cells ⟨1, nw, ⟨ky, vl, tb, pid, sq⟩⟩)) w4) := hid ⟨HP3.out.1.below hb4 HP3.out.1.lt, HP3.out.2.below hb4 HP3.out.2.lt⟩
    clear hb4
    unfold stV
    rw [HCK.out]
    go_wp2_with fail
    refine ⟨rfl, ?_⟩
    have hfc := fun a0 a1 a2 a3 a4 a5 a6 a7 a8 a9 => field_clock a0 a1 a2 a3 a4 a5 a6 a7 a8 a9
    refine headI_loud 10 (by kernel_rfl) (by kernel_rfl) HP4.out ?_
    simp only [List.take, List.drop]
    go_wp2_with fail
    refine ⟨rfl, ?_⟩
    clear hfc
    refine headI_loud 11 (by kernel_rfl) (by kernel_rfl) HP4.out ?_
    simp only [List.take, List.drop]
    go_wp2_with fail
    refine (make_any w4 ⟨ky, vl, tb, pid, sq⟩ (n : Int) (ck : Int)).mono ?_
    rintro e w5 ⟨rfl, hb5⟩
    have HB5 : Hid (Below w2.heap.size w2 w5) := hid (HB4.out.trans (hb5.mono HB4.out.size))
    have HP5 : Hid ((PhBk b w.heap.size #[.slice A n c, .int .i64 (firm : Int)] (Dx.cells ⟨1, nw, ⟨ky, vl, tb, pid, sq⟩⟩)) w5) := hid ⟨HP4.out.1.below hb5 HP4.out.1.lt, HP4.out.2.below hb5 HP4.out.2.lt⟩
    clear hb5
    unfold Wr.rc Rc.cells
    dsimp only
    obtain ⟨rk, hrk⟩ : ∃ k : Int, (if tb then 2 else 1) = k := ⟨_, rfl⟩
    have HRK := hid hrk
    rw [hrk]
    clear hrk
    go_wp2_with fail
    refine ⟨rfl, ?_⟩
    refine headI_loud 12 (by kernel_rfl) (by kernel_rfl) HP5.out ?_
    simp only [List.take, List.drop]
    go_wp2_with fail
    refine ⟨rfl, ?_⟩
    have HP6 : Hid ((PhBk b w.heap.size #[.slice A n c, .int .i64 (firm : Int)] (Dx.cells ⟨1, nw, ⟨ky, vl, tb, pid, sq⟩⟩)) (w5.alloc (.cells #[.int .i64 rk, .int .i64 (n : Int), .int .i64 (ck : Int), .int .i64 pid, .int .i64 sq, .string ky, .string vl] 47))) := hid ⟨HP5.out.1.alloc _, HP5.out.2.alloc _⟩
    have HRW5 := hid (HRW.out.keep (C := CN) (Fx.below HB5.out) (fun h => h))
    obtain ⟨i9, hi9, hz90, hz91, hz92⟩ := info_parts infoR
    have HMX : Hid (n + 1 <= maxLen) := hid (by have h1 := HNB.out; unfold maxLen; omega)
    have HLM : Hid ((n + 1) * 72 <= 140737488355328) := hid (by have h1 := HNB.out; omega)
    refine headI_loud 13 (by kernel_rfl) (by kernel_rfl) HP6.out ?_
    simp only [List.take, List.drop]
    go_wp2_with (first
     | (at_builtin; go_must (refine wpList_append_own_at _ rfl _ _ 31 rfl 0 47 i9 _ 7 72 Tryz.underlying31 hi9 hz90 hz91 hz92 rfl (by decide) (.slice A n c) n _ rfl (HRW5.out.1.alloc _) ⟨w5.heap.size, 0, none⟩ 1 1 [.int .i64 rk, .int .i64 (n : Int), .int .i64 (ck : Int), .int .i64 pid, .int .i64 sq, .string ky, .string vl] rfl rfl (by exact Go.Proofs.YtendlmdmbkcdnaaGreatDoor.dd.cells_new w5 47 [.int .i64 rk, .int .i64 (n : Int), .int .i64 (ck : Int), .int .i64 pid, .int .i64 sq, .string ky, .string vl]) (by simp [Value.oneCell']) HMX.out HLM.out (Nat.zero_le _) ?_; intro v8 w8 hown8 hgr8 _ hloc8; have HO8 := hid hown8; have HG8 := hid hgr8; have HL8 := hid hloc8; clear hown8 hgr8 hloc8))
     | fail)
    refine ⟨rfl, ?_⟩
    obtain ⟨A8, c8, rfl⟩ := own_slice HO8.out
    have HFN2 : Hid (Fin G' w2) := by obtain ⟨p, h⟩ := HT2.out; exact hid h.fin
    obtain ⟨G8, hrow8, hx8, hf8, hn8⟩ := row_app HRW5.out ((Below.refl _ _).alloc (Nat.le_refl _) (.cells #[.int .i64 rk, .int .i64 (n : Int), .int .i64 (ck : Int), .int .i64 pid, .int .i64 sq, .string ky, .string vl] 47)) HG8.out HO8.out (Nat.succ_pos _) HL8.out (HFN2.out.more HB5.out.size)
    have HR8 := hid hrow8
    have HX8 : Hid (Fx (CR (some (β, .waits))) G' G8 w5 w8) := hid hx8
    have HF8 := hid hf8
    have HN8 := hid hn8
    have HBK8 : Hid (BlkR w8 G8 b 33 #[.slice A n c, .int .i64 (firm : Int)] (some (β, .top))) := hid ((show BlkR w5 G' b 33 #[.slice A n c, .int .i64 (firm : Int)] (some (β, .top)) from ⟨HP5.out.1, HBK.out.2⟩).keep hx8 (by rintro ⟨_, e⟩; cases e))
    have HXB8 : Hid (BlkR w8 G8 w.heap.size 37 (Dx.cells ⟨1, nw, ⟨ky, vl, tb, pid, sq⟩⟩) none) := hid ((show BlkR w5 G' w.heap.size 37 (Dx.cells ⟨1, nw, ⟨ky, vl, tb, pid, sq⟩⟩) none from ⟨HP5.out.2, HZ2.out⟩).keep hx8 (by rintro ⟨_, e⟩; cases e))
    have HP8 : Hid ((PhBk b w.heap.size #[.slice A n c, .int .i64 (firm : Int)] (Dx.cells ⟨1, nw, ⟨ky, vl, tb, pid, sq⟩⟩)) w8) := hid ⟨HBK8.out.1, HXB8.out.1⟩
    clear hrow8 hx8 hf8 hn8 HP6 HO8 HG8 HL8 hi9 hz90 hz91 hz92
    have hne0 : Nonempty (Held (PhBk b w.heap.size #[.slice A n c, .int .i64 (firm : Int)] (Dx.cells ⟨1, nw, ⟨ky, vl, tb, pid, sq⟩⟩))) := ⟨⟨_, HP8.out⟩⟩
    refine headI_batch 14 2 (by kernel_rfl) (by kernel_rfl) HP8.out ?_
    simp only [List.take, List.drop]
    repeat (first | go_big_quiet_skip | (go_big_quiet_want; go_big_quiet_op; go_big_quiet_on))
    refine wpQuiet_nil ?_
    clear hne0
    refine headI_end (by kernel_rfl) HP8.out ?_
    simp only [List.take, List.drop]
    go_wp2_with (first
     | ((with_reducible refine at_op ⟨none, .store 31 (.tmp 56) (.tmp 54), _, _, _, _⟩ ?_); refine wpList_store_one rfl 31 (.tmp 56) (.tmp 54) rfl b 0 rfl (.slice A8 (n + 1) c8) rfl rfl rfl 33 _ HBK8.out.1 (by simp) (by kernel_rfl) ?_; intro w9 hT9 hg9 hz9; clear hz9; have HT9 : Hid (Blk w9 b 33 #[.slice A8 (n + 1) c8, .int .i64 (firm : Int)]) := hid hT9; have HX9 : Hid (Fx (CR (some (β, .top))) G8 G8 w8 w9) := hid (Fx.grown hg9 HBK8.out.2); clear hT9 hg9)
     | fail)
    have HEND : Hid (MidD w G τ β t d b X q fs no L firm ⟨1, nw, ⟨ky, vl, tb, pid, sq⟩⟩ w9) := hid (by
     have hfx : Fx (CB β) G' G8 w2 w9 := ((Fx.below HB5.out).trans (HX8.out.mono (fun t r h => ⟨h.1, Or.inr h.2⟩))).trans (HX9.out.mono (fun t r h => ⟨h.1, Or.inl h.2⟩))
     have hl2 : X'.all ++ X'.wr = X.all ++ X.wr ++ [(⟨rk, (n : Int), (ck : Int), pid, sq, ky, vl⟩ : Rc)] := by
      rw [HAL.out, HCK.out, <- HRK.out]
      rfl
     have hl3 : (X'.all ++ X'.wr).length = n + 1 := by
      rw [hl2, List.length_append, List.length_append, HI.out.all, HN.out]
      rfl
     refine ⟨G8, X', fs', no', L', ?_, ?_, HX02.out.trans (hfx.mono (fun t r h => Or.inr h)), HS2.out, fun h => absurd h (show ¬ (1 : Int) = 2 by decide), (HXB8.out.keep HX9.out (by rintro ⟨_, e⟩; cases e)).1, HXB8.out.2⟩
     ·obtain ⟨p, h⟩ := HT2.out
      exact ⟨p, h.keep hfx (HF8.out.more HX9.out.size) (fun i hi => by rw [HN8.out]; exact (HFN2.out i hi).1) (fun _ _ h => h.1) (fun pp => by rintro ⟨_, h | h⟩ <;> (injection h with h; injection h with h; exact HNE.out h.symm)) (by rintro ⟨_, h⟩; simp at h)⟩
     ·refine ⟨A8, c8, ?_, ?_⟩
      ·rw [hl3]
       exact ⟨HT9.out, HBK8.out.2⟩
      ·have h5 := HR8.out.keep HX9.out (by rintro ⟨_, e⟩; cases e)
       rw [hl3, hl2, List.flatMap_append]
       exact h5)
    go_wp2_with fail
    simp only [Act.put]
    refine wp_region_head 45 (fun W => Below w9.heap.size w9 W) (by kernel_rfl) (by kernel_rfl) (fun w10 hh10 hb10 => ?_)
    have HB10 : Hid (Below w9.heap.size w9 w10) := hid hb10
    have hne0 : Nonempty (Held (fun W => Below w9.heap.size w9 W)) := ⟨⟨_, hb10⟩⟩
    clear hh10 hb10
    refine headI_batch 0 45 (by kernel_rfl) (by kernel_rfl) HB10.out ?_
    simp only [List.take, List.drop]
    repeat (first | go_big_quiet_skip | (go_big_quiet_want; go_big_quiet_op; go_big_quiet_on))
    refine wpQuiet_nil ?_
    clear hne0
    refine headI_end (by kernel_rfl) HB10.out ?_
    simp only [List.take, List.drop]
    go_wp2_with fail
    go_meet
    exact HEND.out.below HB10.out
  ·have HK1 : Hid (kd ≠ 1) := hid hk1
   have HT1 : Hid (TopAt w1 G τ t d X q fs no L) := by obtain ⟨p, h⟩ := HT.out; exact hid ⟨p, h.below HB1.out⟩
   by_cases hk2 : kd = 2
   ·subst hk2
    clear hk1
    go_wp2_with fail
    refine (commit3 w1 G τ t d X q fs no L HT1.out HI.out HR.out).mono ?_
    rintro e w2 ⟨rfl, G', fs', no', hT2, hx2, hS2⟩
    have HEND : Hid (MidD w G τ β t d b X q fs no L firm ⟨2, nw, ⟨ky, vl, tb, pid, sq⟩⟩ w2) := hid ⟨G', _, fs', no', L, hT2, by rw [commit_all]; exact (HB.out.below HB1.out).keep hx2 (ct_ne HNE.out) (ct_ne HNE.out), (Fx.below HB1.out).trans (hx2.mono cdo_t), hS2, fun _ => rfl, blk_keepH HX1.out (hx2.keep _ HX1.out.lt (by rw [HZ1.out.1, HZ1.out.2]; exact ct_none)), HZ1.out.keep hx2 HX1.out.lt⟩
    clear hT2 hx2 hS2 e0 e1 e2 e3 e4 e5 e6
    go_wp2_with fail
    go_meet
    exact HEND
   ·by_cases hk3 : kd = 3
    ·subst hk3
     clear hk1 hk2
     go_wp2_with fail
     refine (roll3 w1 G τ t d X q fs no L HT1.out HI.out HR.out (HQ.out (by first | exact trivial | rfl))).mono ?_
     rintro e w2 ⟨he, G', X', fs', no', L', hT2, hx2, hS2, h3⟩
     have HEND : Hid (MidD w G τ β t d b X q fs no L firm ⟨3, nw, ⟨ky, vl, tb, pid, sq⟩⟩ w2) := hid ⟨G', X', fs', no', L', hT2, by rw [h3]; exact (HB.out.below HB1.out).keep hx2 (ct_ne HNE.out) (ct_ne HNE.out), (Fx.below HB1.out).trans (hx2.mono cdo_t), hS2, fun h => absurd h (show ¬ (3 : Int) = 2 by decide), blk_keepH HX1.out (hx2.keep _ HX1.out.lt (by rw [HZ1.out.1, HZ1.out.2]; exact ct_none)), HZ1.out.keep hx2 HX1.out.lt⟩
     clear hT2 hx2 hS2 h3 e0 e1 e2 e3 e4 e5 e6
     rcases he with rfl | rfl | rfl
     ·go_wp2_with fail
      go_meet
      exact HEND
     ·go_wp2_with fail
      go_meet
      exact HEND
     ·go_wp2_with fail
      go_meet
      exact HEND
    ·have HEND : Hid (MidD w G τ β t d b X q fs no L firm ⟨kd, nw, ⟨ky, vl, tb, pid, sq⟩⟩ w1) := hid ⟨G, X, fs, no, L, HT1.out, HB.out.below HB1.out, Fx.below HB1.out, Stp.refl HI.out, fun h => absurd h hk2, HX1.out, HZ1.out⟩
     have g1 : (kd == 1) = false := by simpa using hk1
     have g2 : (kd == 2) = false := by simpa using hk2
     have g3 : (kd == 3) = false := by simpa using hk3
     clear hk1 hk2 hk3 e1 e2 e3 e4 e5 e6
     go_wp2_with fail
     go_meet
     exact HEND
 case rest =>
  obtain ⟨G', X', fs', no', L', hT2, hB2, hx2, hS2, hW2, hXB2, hZ2⟩ := hcut.out
  have HT2 := hid hT2
  have HX2 : Hid (Fx (CDo τ β) G G' w wc) := hid hx2
  have HS2 := hid hS2
  have HW2 := hid hW2
  have HXB2 := hid hXB2
  have HZ2 := hid hZ2
  obtain ⟨A, c, hbk, hrw⟩ := hB2
  obtain ⟨n, hn⟩ : ∃ n, X'.en + X'.wr.length = n := ⟨_, rfl⟩
  have hl : (X'.all ++ X'.wr).length = n := by rw [List.length_append, hS2.inv.all, hn]
  rw [hl] at hbk
  have HBK := hid hbk
  have HRW := hid hrw
  have HFN2 : Hid (Fin G' wc) := by obtain ⟨p, h⟩ := hT2; exact hid h.fin
  have HN := hid hn
  have HLN := hid hl
  have HNB : Hid (n <= 300800) := hid (by have := hS2.inv.en2; omega)
  have HST := hid (state_any wc G' τ t d X' q fs' no' L' hT2 hS2.inv.sth)
  clear hT2 hx2 hS2 hW2 hXB2 hZ2 hbk hrw hn hl e0 e1 e2 e3 e4 e5 e6
  go_step
  go_wp2_with fail
  refine HST.out.mono ?_
  rintro e w3 ⟨⟨sa, sb, sc, rfl⟩, hb3⟩
  have HB3 := hid hb3
  clear hb3 HST
  unfold stV
  rw [HN.out]
  obtain ⟨wl, hwl⟩ : ∃ k, X'.wr.length = k := ⟨_, rfl⟩
  have HWL := hid hwl
  rw [hwl]
  clear hwl
  go_wp2_with fail
  obtain ⟨w4, hw4⟩ : ∃ y, w3.alloc (.cells #[.int .i64 (X'.i : Int), .int .i64 (n : Int), .int .i64 (X'.en : Int), .int .i64 (X'.man.mark : Int), .int .i64 (X'.clock : Int), .int .i64 (X'.man.segs.length : Int), .int .i64 (wl : Int), .int .i64 sa, .int .i64 sb, .int .i64 sc] 41) = y := ⟨_, rfl⟩
  have HB4 : Hid (Below wc.heap.size wc w4) := by rw [<- hw4]; exact hid (HB3.out.alloc HB3.out.size _)
  have HS4 : Hid (Blk w4 w3.heap.size 41 #[.int .i64 (X'.i : Int), .int .i64 (n : Int), .int .i64 (X'.en : Int), .int .i64 (X'.man.mark : Int), .int .i64 (X'.clock : Int), .int .i64 (X'.man.segs.length : Int), .int .i64 (wl : Int), .int .i64 sa, .int .i64 sb, .int .i64 sc]) := by rw [<- hw4]; exact hid (Blk.new w3 _ _)
  rw [hw4]
  clear hw4
  have HIS : Hid (Is G' w3.heap.size none) := hid (HFN2.out _ HB3.out.size)
  refine wp_region_head 10 (PhS2 b w3.heap.size #[.slice A n c, .int .i64 (firm : Int)] #[.int .i64 (X'.i : Int), .int .i64 (n : Int), .int .i64 (X'.en : Int), .int .i64 (X'.man.mark : Int), .int .i64 (X'.clock : Int), .int .i64 (X'.man.segs.length : Int), .int .i64 (wl : Int), .int .i64 sa, .int .i64 sb, .int .i64 sc]) (by kernel_rfl) (by kernel_rfl) (fun w5 hh5 hb5 => ?_)
  have HB5 : Hid (Below wc.heap.size wc w5) := hid (HB4.out.trans (hb5.mono HB4.out.size))
  have HP5 : Hid ((PhS2 b w3.heap.size #[.slice A n c, .int .i64 (firm : Int)] #[.int .i64 (X'.i : Int), .int .i64 (n : Int), .int .i64 (X'.en : Int), .int .i64 (X'.man.mark : Int), .int .i64 (X'.clock : Int), .int .i64 (X'.man.segs.length : Int), .int .i64 (wl : Int), .int .i64 sa, .int .i64 sb, .int .i64 sc]) w5) := hid ⟨HBK.out.1.below HB5.out HBK.out.1.lt, HS4.out.below hb5 HS4.out.lt⟩
  have hne0 : Nonempty (Held (PhS2 b w3.heap.size #[.slice A n c, .int .i64 (firm : Int)] #[.int .i64 (X'.i : Int), .int .i64 (n : Int), .int .i64 (X'.en : Int), .int .i64 (X'.man.mark : Int), .int .i64 (X'.clock : Int), .int .i64 (X'.man.segs.length : Int), .int .i64 (wl : Int), .int .i64 sa, .int .i64 sb, .int .i64 sc])) := ⟨⟨_, HP5.out⟩⟩
  have k1 : ∀ p' : Held (PhS2 b w3.heap.size #[.slice A n c, .int .i64 (firm : Int)] #[.int .i64 (X'.i : Int), .int .i64 (n : Int), .int .i64 (X'.en : Int), .int .i64 (X'.man.mark : Int), .int .i64 (X'.clock : Int), .int .i64 (X'.man.segs.length : Int), .int .i64 (wl : Int), .int .i64 sa, .int .i64 sb, .int .i64 sc]), p'.w.cell? ⟨b, 1, none⟩ = some (.int .i64 (firm : Int)) := fun p' => (p'.h.1.cell 1).trans rfl
  have k2 : ∀ p' : Held (PhS2 b w3.heap.size #[.slice A n c, .int .i64 (firm : Int)] #[.int .i64 (X'.i : Int), .int .i64 (n : Int), .int .i64 (X'.en : Int), .int .i64 (X'.man.mark : Int), .int .i64 (X'.clock : Int), .int .i64 (X'.man.segs.length : Int), .int .i64 (wl : Int), .int .i64 sa, .int .i64 sb, .int .i64 sc]), p'.w.cell? ⟨w3.heap.size, 2, none⟩ = some (.int .i64 (X'.en : Int)) := fun p' => (p'.h.2.cell 2).trans rfl
  have hmx : max (firm : Int) (X'.en : Int) = (X'.en : Int) := by have h1 := HF.out; have h2 := HS2.out.en; omega
  clear hh5 hb5
  refine headI_batch 0 10 (by kernel_rfl) (by kernel_rfl) HP5.out ?_
  simp only [List.take, List.drop]
  repeat (first | go_big_quiet_skip | (go_big_quiet_want; go_big_quiet_op; go_big_quiet_on))
  refine wpQuiet_nil ?_
  clear hne0 k1 k2
  refine headI_end (by kernel_rfl) HP5.out ?_
  simp only [List.take, List.drop]
  go_wp2_with (first
   | ((with_reducible refine at_op ⟨none, .store 3 (.tmp 130) (.tmp 128), _, _, _, _⟩ ?_); refine wpList_store_one rfl 3 (.tmp 130) (.tmp 128) rfl b 1 rfl (.int .i64 (X'.en : Int)) rfl rfl rfl 33 _ HP5.out.1 (by simp) (by kernel_rfl) ?_; intro w6 hT6 hg6 hz6; clear hz6; have HT6 : Hid (Blk w6 b 33 #[.slice A n c, .int .i64 (X'.en : Int)]) := hid hT6; have HX6 : Hid (Fx (CR (some (β, .top))) G' G' w5 w6) := hid (Fx.grown hg6 HBK.out.2); clear hT6 hg6)
   | fail)
  simp only [Act.put]
  clear hmx
  have HS6 : Hid (BlkR w6 G' w3.heap.size 41 #[.int .i64 (X'.i : Int), .int .i64 (n : Int), .int .i64 (X'.en : Int), .int .i64 (X'.man.mark : Int), .int .i64 (X'.clock : Int), .int .i64 (X'.man.segs.length : Int), .int .i64 (wl : Int), .int .i64 sa, .int .i64 sb, .int .i64 sc] none) := hid ((show BlkR w5 G' w3.heap.size 41 #[.int .i64 (X'.i : Int), .int .i64 (n : Int), .int .i64 (X'.en : Int), .int .i64 (X'.man.mark : Int), .int .i64 (X'.clock : Int), .int .i64 (X'.man.segs.length : Int), .int .i64 (wl : Int), .int .i64 sa, .int .i64 sb, .int .i64 sc] none from ⟨HP5.out.2, HIS.out⟩).keep HX6.out (by rintro ⟨_, e⟩; cases e))
  have HXB6 : Hid (BlkR w6 G' w.heap.size 37 (Dx.cells ⟨kd, nw, ⟨ky, vl, tb, pid, sq⟩⟩) none) := hid ((show BlkR w5 G' w.heap.size 37 (Dx.cells ⟨kd, nw, ⟨ky, vl, tb, pid, sq⟩⟩) none from ⟨HXB2.out.below HB5.out HXB2.out.lt, HZ2.out⟩).keep HX6.out (by rintro ⟨_, e⟩; cases e))
  have HFX : Hid (Fx (CR (some (β, .top))) G' G' wc w6) := hid ((Fx.below HB5.out).trans HX6.out)
  have HEND : Hid (∀ w7, Below w6.heap.size w6 w7 -> DoOut w G τ β t d b X q fs no L ⟨kd, nw, ⟨ky, vl, tb, pid, sq⟩⟩ (.returned (.tuple #[.bool true, .bool true])) w7) := hid (fun w7 hb7 => by
   refine ⟨rfl, G', X', fs', no', L', ?_, ?_, HX2.out.trans ((HFX.out.trans (Fx.below hb7)).mono (cdo_b (Or.inl rfl))), HS2.out, HW2.out⟩
   ·obtain ⟨p, h⟩ := HT2.out
    have h2 : TopV w6 G' τ t d X' q fs' no' L' p := h.keep HFX.out (HFN2.out.more HFX.out.size) (fun i hi => (HFN2.out i hi).1) (fun _ _ h => h.1) (fun pp => by rintro ⟨_, h⟩; injection h with h; injection h with h; exact HNE.out h.symm) (by rintro ⟨_, h⟩; cases h)
    exact ⟨p, h2.below hb7⟩
   ·have h3 : BookAt w6 G' β b (X'.all ++ X'.wr) X'.en := ⟨A, c, by rw [HLN.out]; exact ⟨HT6.out, HBK.out.2⟩, HRW.out.keep HFX.out (by rintro ⟨_, e⟩; cases e)⟩
    exact h3.below hb7)
  refine wp_region_head 29 (PhS3 b w3.heap.size w.heap.size #[.slice A n c, .int .i64 (X'.en : Int)] #[.int .i64 (X'.i : Int), .int .i64 (n : Int), .int .i64 (X'.en : Int), .int .i64 (X'.man.mark : Int), .int .i64 (X'.clock : Int), .int .i64 (X'.man.segs.length : Int), .int .i64 (wl : Int), .int .i64 sa, .int .i64 sb, .int .i64 sc] (Dx.cells ⟨kd, nw, ⟨ky, vl, tb, pid, sq⟩⟩)) (by kernel_rfl) (by kernel_rfl) (fun w7 hh7 hb7 => ?_)
  have HB7 : Hid (Below w6.heap.size w6 w7) := hid hb7
  have HP7 : Hid ((PhS3 b w3.heap.size w.heap.size #[.slice A n c, .int .i64 (X'.en : Int)] #[.int .i64 (X'.i : Int), .int .i64 (n : Int), .int .i64 (X'.en : Int), .int .i64 (X'.man.mark : Int), .int .i64 (X'.clock : Int), .int .i64 (X'.man.segs.length : Int), .int .i64 (wl : Int), .int .i64 sa, .int .i64 sb, .int .i64 sc] (Dx.cells ⟨kd, nw, ⟨ky, vl, tb, pid, sq⟩⟩)) w7) := hid ⟨HT6.out.below hb7 HT6.out.lt, HS6.out.1.below hb7 HS6.out.1.lt, HXB6.out.1.below hb7 HXB6.out.1.lt⟩
  have hne0 : Nonempty (Held (PhS3 b w3.heap.size w.heap.size #[.slice A n c, .int .i64 (X'.en : Int)] #[.int .i64 (X'.i : Int), .int .i64 (n : Int), .int .i64 (X'.en : Int), .int .i64 (X'.man.mark : Int), .int .i64 (X'.clock : Int), .int .i64 (X'.man.segs.length : Int), .int .i64 (wl : Int), .int .i64 sa, .int .i64 sb, .int .i64 sc] (Dx.cells ⟨kd, nw, ⟨ky, vl, tb, pid, sq⟩⟩))) := ⟨⟨_, HP7.out⟩⟩
  have k0 : ∀ p' : Held (PhS3 b w3.heap.size w.heap.size #[.slice A n c, .int .i64 (X'.en : Int)] #[.int .i64 (X'.i : Int), .int .i64 (n : Int), .int .i64 (X'.en : Int), .int .i64 (X'.man.mark : Int), .int .i64 (X'.clock : Int), .int .i64 (X'.man.segs.length : Int), .int .i64 (wl : Int), .int .i64 sa, .int .i64 sb, .int .i64 sc] (Dx.cells ⟨kd, nw, ⟨ky, vl, tb, pid, sq⟩⟩)), p'.w.cell? ⟨b, 0, none⟩ = some (.slice A n c) := fun p' => (p'.h.1.cell 0).trans rfl
  have k1 : ∀ p' : Held (PhS3 b w3.heap.size w.heap.size #[.slice A n c, .int .i64 (X'.en : Int)] #[.int .i64 (X'.i : Int), .int .i64 (n : Int), .int .i64 (X'.en : Int), .int .i64 (X'.man.mark : Int), .int .i64 (X'.clock : Int), .int .i64 (X'.man.segs.length : Int), .int .i64 (wl : Int), .int .i64 sa, .int .i64 sb, .int .i64 sc] (Dx.cells ⟨kd, nw, ⟨ky, vl, tb, pid, sq⟩⟩)), p'.w.cell? ⟨w3.heap.size, 1, none⟩ = some (.int .i64 (n : Int)) := fun p' => (p'.h.2.1.cell 1).trans rfl
  have k2 : ∀ p' : Held (PhS3 b w3.heap.size w.heap.size #[.slice A n c, .int .i64 (X'.en : Int)] #[.int .i64 (X'.i : Int), .int .i64 (n : Int), .int .i64 (X'.en : Int), .int .i64 (X'.man.mark : Int), .int .i64 (X'.clock : Int), .int .i64 (X'.man.segs.length : Int), .int .i64 (wl : Int), .int .i64 sa, .int .i64 sb, .int .i64 sc] (Dx.cells ⟨kd, nw, ⟨ky, vl, tb, pid, sq⟩⟩)), p'.w.cell? ⟨w3.heap.size, 2, none⟩ = some (.int .i64 (X'.en : Int)) := fun p' => (p'.h.2.1.cell 2).trans rfl
  have k6 : ∀ p' : Held (PhS3 b w3.heap.size w.heap.size #[.slice A n c, .int .i64 (X'.en : Int)] #[.int .i64 (X'.i : Int), .int .i64 (n : Int), .int .i64 (X'.en : Int), .int .i64 (X'.man.mark : Int), .int .i64 (X'.clock : Int), .int .i64 (X'.man.segs.length : Int), .int .i64 (wl : Int), .int .i64 sa, .int .i64 sb, .int .i64 sc] (Dx.cells ⟨kd, nw, ⟨ky, vl, tb, pid, sq⟩⟩)), p'.w.cell? ⟨w3.heap.size, 6, none⟩ = some (.int .i64 (wl : Int)) := fun p' => (p'.h.2.1.cell 6).trans rfl
  have kx : ∀ p' : Held (PhS3 b w3.heap.size w.heap.size #[.slice A n c, .int .i64 (X'.en : Int)] #[.int .i64 (X'.i : Int), .int .i64 (n : Int), .int .i64 (X'.en : Int), .int .i64 (X'.man.mark : Int), .int .i64 (X'.clock : Int), .int .i64 (X'.man.segs.length : Int), .int .i64 (wl : Int), .int .i64 sa, .int .i64 sb, .int .i64 sc] (Dx.cells ⟨kd, nw, ⟨ky, vl, tb, pid, sq⟩⟩)), p'.w.cell? ⟨w.heap.size, 0, none⟩ = some (.int .i64 kd) := fun p' => (p'.h.2.2.cell 0).trans rfl
  have i1 : IntKind.i64.wrap ((n : Int) - (X'.en : Int)) = (wl : Int) := by have h1 := HN.out; have h2 := HWL.out; have h3 := HNB.out; rw [IntKind.wrap_i64]; omega
  have HW0 : Hid (kd = 2 -> wl = 0) := hid (fun h => by have h1 := HW2.out h; have h2 := HWL.out; rw [h1] at h2; exact h2.symm)
  clear hh7 hb7
  obtain ⟨z, hz⟩ : ∃ z, (kd != 2) = z := ⟨_, rfl⟩
  have HZ := hid hz
  cases z
  all_goals
   refine headI_batch 0 29 (by kernel_rfl) (by kernel_rfl) HP7.out ?_
   simp only [List.take, List.drop]
  ·have h0 : wl = 0 := HW0.out (by simpa using hz)
   have h1 : ((wl : Int) == 0) = true := by simp [h0]
   clear h0
   repeat (first | go_big_quiet_skip | (go_big_quiet_want; go_big_quiet_op; go_big_quiet_on))
   refine wpQuiet_nil ?_
   clear hne0 k0 k1 k2 k6 kx
   refine headI_end (by kernel_rfl) HP7.out ?_
   simp only [List.take, List.drop]
   go_wp2_with fail
   go_ret2
   exact HEND.out _ HB7.out
  ·repeat (first | go_big_quiet_skip | (go_big_quiet_want; go_big_quiet_op; go_big_quiet_on))
   refine wpQuiet_nil ?_
   clear hne0 k0 k1 k2 k6 kx
   refine headI_end (by kernel_rfl) HP7.out ?_
   simp only [List.take, List.drop]
   go_wp2_with fail
   go_ret2
   exact HEND.out _ HB7.out
end Go.Proofs.YtendlmdmbkcdnaaGreatDoor.tp
namespace Go.Proofs.YtendlmdmbkcdnaaGreatDoor.tp
open Go.RowKit Go.Maps Go.WideMaps oc rc gh dk sg ma hi kd dd
set_option maxRecDepth 100000
def DosAt (w : World) (A : Option Addr) (l : List Dx) : Prop := 0 < l.length -> ∃ b off, A = some ⟨b, off, none⟩ /\ b < w.heap.size /\ ∀ (j : Nat) (x : Dx) (i : Nat) (v : Value), l[j]? = some x -> x.cells[i]? = some v -> w.cell? ⟨b, off + j * 7 + i, none⟩ = some v
theorem below_of {C : Tag -> Role -> Prop} {w wr wx : World} {G G' : Gh} (hb : Below w.heap.size w wr) (ho : ∀ i, i < w.heap.size -> Is G i none) (hF : Fx C G G' wr wx) (hC : ¬ C .other none) : Below w.heap.size w wx /\ ∀ i, i < w.heap.size -> Is G' i none := by
 refine ⟨hb.trans ⟨hF.os, hF.tape, hF.output, hF.size, fun i hi => hF.keep i (Nat.lt_of_lt_of_le hi hb.size) (by rw [(ho i hi).1, (ho i hi).2]; exact hC)⟩, fun i hi => ?_⟩
 exact (ho i hi).keep hF (Nat.lt_of_lt_of_le hi hb.size)
structure LW (w : World) (d t bb : Nat) (q : Int) (wr : World) (G : Gh) (X : TS) (fs : List Fil) (no L firm : Nat) : Prop where
 top : TopAt wr G 3 t d X q fs no L
 book : BookAt wr G 9 bb (X.all ++ X.wr) firm
 inv : Inv X fs
 firm : firm <= X.en
 no : no <= cost X + 100
 L : L <= 8 * X.cur + 100
 len : fs.length <= 2 * X.cur + 100
 sum : sumF fs <= vol X + 10000
 old : ∀ i, i < w.heap.size -> Is G i none
 below : Below w.heap.size w wr
theorem tab_lt {w : World} (h : Tab w) : 2 < w.heap.size := by
 have hv : w.var? Tryz.prog "internal/strconv.uint64pow10" = some ((Lib.pow10Tab.map fun z => Value.int .u64 z).toArray) := h
 unfold World.var? at hv
 rw [show Tryz.prog.globalNamed "internal/strconv.uint64pow10" = some 2 by kernel_rfl] at hv
 rcases Nat.lt_or_ge 2 w.heap.size with h1 | h1
 ·exact h1
 ·simp [Array.getElem?_eq_none h1] at hv
section
variable {w wr wx : World} {d t bb : Nat} {q : Int} {G G' : Gh} {X X' : TS} {fs fs' : List Fil} {no L firm no' L' firm' : Nat}
theorem LW.room (h : LW w d t bb q wr G X fs no L firm) : Room fs no L := by
 have h1 := h.inv.en2
 have h2 := h.inv.cur1
 have h3 := h.no
 have h4 := h.L
 have h5 := h.len
 unfold cost at h3
 exact ⟨by omega, by omega, by omega⟩
theorem LW.sums (h : LW w d t bb q wr G X fs no L firm) (hq : q = 1073741824) : ((sumF fs : Nat) : Int) + 4096 <= q := by
 have h1 := h.inv.en2
 have h2 := h.inv.cur1
 have h3 := h.sum
 unfold vol at h3
 omega
theorem LW.keep (h : LW w d t bb q wr G X fs no L firm) (hb : Below wr.heap.size wr wx) : LW w d t bb q wx G X fs no L firm :=
 { h with
  top := by obtain ⟨p, h1⟩ := h.top; exact ⟨p, h1.below hb⟩
  book := h.book.below hb
  below := h.below.trans (hb.mono h.below.size) }
theorem LW.next {C : Tag -> Role -> Prop} (h : LW w d t bb q wr G X fs no L firm) (hF : Fx C G G' wr wx) (hC : ¬ C .other none) (hS : Stp X fs no L X' fs' no' L') (hT : TopAt wx G' 3 t d X' q fs' no' L') (hB : BookAt wx G' 9 bb (X'.all ++ X'.wr) firm') (hf : firm' <= X'.en) : LW w d t bb q wx G' X' fs' no' L' firm' := by
 have h1 := below_of h.below h.old hF hC
 have h2 := h.no
 have h3 := h.L
 have h4 := h.len
 have h5 := h.sum
 have k2 := hS.no
 have k3 := hS.L
 have k4 := hS.len
 have k5 := hS.sum
 exact ⟨hT, hB, hS.inv, hf, by omega, by omega, by omega, by omega, h1.2, h1.1⟩
end
theorem dk_new {q : Int} (h0 : 0 <= q) (h1 : q <= 1073741824) {w1 : World} {b : Nat} (hD : DiskAt w1 (ow0 b) b (disk0 q)) : DK w1 ⟨ow0 b, fun _ => none⟩ b q [] 0 0 /\ Fin ⟨ow0 b, fun _ => none⟩ w1 := by
 refine ⟨⟨disk0 q, hD, ?_⟩, fun i hi => ⟨?_, rfl⟩⟩
 ·refine ⟨rfl, rfl, rfl, h1, Int.le_refl _, Int.le_refl _, Nat.le_refl _, ⟨rfl, ?_⟩, tidy_empty, fun x hx => (by cases hx), fun s _ => ?_, List.nodup_nil, List.nodup_nil, rfl, h0, rfl⟩
  ·intro k ch h
   simp [disk0] at h
  ·exact ⟨rfl, rfl⟩
 ·obtain ⟨ms, mf, vc, dvals, hV⟩ := hD
  exact hV.new i hi
end Go.Proofs.YtendlmdmbkcdnaaGreatDoor.tp
namespace Go.Proofs.YtendlmdmbkcdnaaGreatDoor.tp
open Go.RowKit Go.Maps Go.WideMaps Go.ChangeShapes Go.WideShapes Go.Deep oc rc gh
set_option maxRecDepth 100000
theorem cells_do : Tryz.prog.cellsOf 37 = 7 := by kernel_rfl
theorem cells_wr : Tryz.prog.cellsOf 35 = 5 := by kernel_rfl
theorem cells_int : Tryz.prog.cellsOf 3 = 1 := by kernel_rfl
theorem cells_int64 : Tryz.prog.cellsOf 2 = 1 := by kernel_rfl
theorem cells_str : Tryz.prog.cellsOf 9 = 1 := by kernel_rfl
theorem cells_bool : Tryz.prog.cellsOf 4 = 1 := by kernel_rfl
section
variable {H : Type} {enc : TypeId × Value -> H} {W : World}
theorem open_do {n : Nat} {cs : List Value} {x : DataW H × List MemPlace} (h : DataW.trod enc Tryz.prog W 0 (fun _ => true) true n 37 cs = some x) : ∃ y : Dx, cs = y.cells.toList := by
 obtain ⟨ys, n1, _, _, hcl, hyl, hf⟩ := DataW.trod_struct Tryz.underlying37 h
 rw [cells_do] at hcl
 match cs, hcl with
 | [c0, c1, c2, c3, c4, c5, c6], _ =>
  have hy : ∀ i, i < 3 -> ∃ y, ys[i]? = some y := fun i hi => ⟨_, List.getElem?_eq_getElem (by rw [hyl]; exact hi)⟩
  obtain ⟨y0, e0⟩ := hy 0 (by decide)
  obtain ⟨y1, e1⟩ := hy 1 (by decide)
  obtain ⟨y2, e2⟩ := hy 2 (by decide)
  have h0 : DataW.trod enc Tryz.prog W 0 (fun _ => true) true n1 3 ((([c0, c1, c2, c3, c4, c5, c6] : List Value).drop 0).take (Tryz.prog.cellsOf 3)) = ys[0]? := hf 0 _ rfl
  have h1 : DataW.trod enc Tryz.prog W 0 (fun _ => true) true n1 2 ((([c0, c1, c2, c3, c4, c5, c6] : List Value).drop 1).take (Tryz.prog.cellsOf 2)) = ys[1]? := hf 1 _ rfl
  have h2 : DataW.trod enc Tryz.prog W 0 (fun _ => true) true n1 35 ((([c0, c1, c2, c3, c4, c5, c6] : List Value).drop 2).take (Tryz.prog.cellsOf 35)) = ys[2]? := hf 2 _ rfl
  rw [cells_int, e0] at h0
  rw [cells_int64, e1] at h1
  rw [cells_wr, e2] at h2
  obtain ⟨q0, hq0, _, _⟩ := DataW.trod_int (k := .i64) (by kernel_rfl) h0
  obtain ⟨q1, hq1, _, _⟩ := DataW.trod_int (k := .i64) (by kernel_rfl) h1
  obtain ⟨zs, n2, _, _, _, hzl, hg⟩ := DataW.trod_struct Tryz.underlying35 h2
  have hz : ∀ i, i < 5 -> ∃ y, zs[i]? = some y := fun i hi => ⟨_, List.getElem?_eq_getElem (by rw [hzl]; exact hi)⟩
  obtain ⟨z0, d0⟩ := hz 0 (by decide)
  obtain ⟨z1, d1⟩ := hz 1 (by decide)
  obtain ⟨z2, d2⟩ := hz 2 (by decide)
  obtain ⟨z3, d3⟩ := hz 3 (by decide)
  obtain ⟨z4, d4⟩ := hz 4 (by decide)
  have g0 : DataW.trod enc Tryz.prog W 0 (fun _ => true) true n2 9 ((([c2, c3, c4, c5, c6] : List Value).drop 0).take (Tryz.prog.cellsOf 9)) = zs[0]? := hg 0 _ rfl
  have g1 : DataW.trod enc Tryz.prog W 0 (fun _ => true) true n2 9 ((([c2, c3, c4, c5, c6] : List Value).drop 1).take (Tryz.prog.cellsOf 9)) = zs[1]? := hg 1 _ rfl
  have g2 : DataW.trod enc Tryz.prog W 0 (fun _ => true) true n2 4 ((([c2, c3, c4, c5, c6] : List Value).drop 2).take (Tryz.prog.cellsOf 4)) = zs[2]? := hg 2 _ rfl
  have g3 : DataW.trod enc Tryz.prog W 0 (fun _ => true) true n2 2 ((([c2, c3, c4, c5, c6] : List Value).drop 3).take (Tryz.prog.cellsOf 2)) = zs[3]? := hg 3 _ rfl
  have g4 : DataW.trod enc Tryz.prog W 0 (fun _ => true) true n2 2 ((([c2, c3, c4, c5, c6] : List Value).drop 4).take (Tryz.prog.cellsOf 2)) = zs[4]? := hg 4 _ rfl
  rw [cells_str, d0] at g0
  rw [cells_str, d1] at g1
  rw [cells_bool, d2] at g2
  rw [cells_int64, d3] at g3
  rw [cells_int64, d4] at g4
  obtain ⟨s0, hs0, _, _⟩ := DataW.trod_string Tryz.underlying9 g0
  obtain ⟨s1, hs1, _, _⟩ := DataW.trod_string Tryz.underlying9 g1
  obtain ⟨b2, hb2, _⟩ := DataW.trod_bool Tryz.underlying4 g2
  obtain ⟨q3, hq3, _, _⟩ := DataW.trod_int (k := .i64) (by kernel_rfl) g3
  obtain ⟨q4, hq4, _, _⟩ := DataW.trod_int (k := .i64) (by kernel_rfl) g4
  refine ⟨⟨q0, q1, ⟨s0, s1, b2, q3, q4⟩⟩, ?_⟩
  simp at hq0 hq1 hs0 hs1 hb2 hq3 hq4
  subst hq0 hq1 hs0 hs1 hb2 hq3 hq4
  rfl
theorem open_dos {fuel : Nat} {a0 : Option Addr} {len cap : Nat} {x : DataW H × List MemPlace} (h : DataW.trod enc Tryz.prog W 0 (fun _ => true) true fuel 22 (Value.slice a0 len cap).cells.toList = some x) :
  ∃ l : List Dx, len = l.length /\ DosAt W a0 l /\ l.length <= 9223372036854775807 := by
 rcases open_slice Tryz.underlying22 h with ⟨hcs, _⟩ | ⟨a, len', cap', m, n, D, Pl, hcs, _, hl, hm, hmm, hx, hi⟩
 ·simp [Value.cells] at hcs
  obtain ⟨rfl, rfl, rfl⟩ := hcs
  exact ⟨[], rfl, fun hn => absurd hn (Nat.lt_irrefl _), by decide⟩
 ·simp [Value.cells] at hcs
  obtain ⟨rfl, rfl, rfl⟩ := hcs
  simp only [if_true] at hmm
  subst hmm
  have hrow : ∀ i, i < m -> ∃ y : Dx, ∀ (j : Nat) v, y.cells[j]? = some v -> W.cell? (a.add (i * 7 + j)) = some v := by
   intro i him
   obtain ⟨cs', hc, ht⟩ := hi i him
   rw [cells_do] at hc
   obtain ⟨_, hcl, hat⟩ := World.cells?_some hc
   obtain ⟨y, rfl⟩ := open_do ht
   refine ⟨y, fun j v hj => ?_⟩
   have hlt : j < 7 := (Array.getElem?_eq_some_iff.1 hj).1
   have h1 := hat j hlt
   try rw [cells_do] at h1
   rw [Go.Deep.add_add] at h1
   rw [h1, <- hj]
   simp
  have hmx : m <= 9223372036854775807 := by unfold maxLen at hm; omega
  refine ⟨(List.range len).map fun i => if h : i < m then Classical.choose (hrow i h) else ⟨0, 0, ⟨⟨#[]⟩, ⟨#[]⟩, false, 0, 0⟩⟩, by simp, fun hn => ?_, by simp; omega⟩
  have hpos : 0 < len := by simpa using hn
  have hget : ∀ (i : Nat) (y : Dx), ((List.range len).map fun i => if h : i < m then Classical.choose (hrow i h) else ⟨0, 0, ⟨⟨#[]⟩, ⟨#[]⟩, false, 0, 0⟩⟩)[i]? = some y -> ∀ (j : Nat) v, y.cells[j]? = some v -> W.cell? (a.add (i * 7 + j)) = some v := by
   intro i y hy j v hj
   rw [List.getElem?_map] at hy
   obtain ⟨k, hk, rfl⟩ := Option.map_eq_some_iff.1 hy
   obtain ⟨hlt, rfl⟩ := List.getElem?_eq_some_iff.1 hk
   rw [List.length_range] at hlt
   simp only [List.getElem_range] at hj ⊢
   rw [dif_pos (show i < m by omega)] at hj
   exact Classical.choose_spec (hrow i (by omega)) j v hj
  obtain ⟨y0, hy0⟩ := hrow 0 (by omega)
  have hq := hy0 0 _ rfl
  have hblk := block_lt_of_cell hq
  obtain ⟨b, off, sp⟩ := a
  cases sp with
  | some x =>
   exfalso
   simp [World.cell?, Addr.add] at hq
   split at hq <;> simp_all
  | none =>
   refine ⟨b, off, rfl, ?_, fun i r j v hr hj => ?_⟩
   ·rw [add_flat] at hblk
    exact hblk
   ·have := hget i r hr j v hj
    rw [add_flat, <- Nat.add_assoc] at this
    exact this
end
theorem tab_laid {laid : List (String × DataW Unit)} {W : World} (hL : laidMet Tryz.prog laid W) (hf : laid.filter (fun x => x.1 == "internal/strconv.uint64pow10") = [("internal/strconv.uint64pow10", Lib.tabData .u64 Lib.pow10Tab)]) : Go.Proofs.YtendlmdmbkcdnaaGreatDoor.sg.Tab W := by
 have h := hL.filter (fun x => x.1 == "internal/strconv.uint64pow10")
 rw [hf] at h
 exact Lib.tabIs_of_head (g := 2) (t := 377) (e := 252) (n := 20) (by kernel_rfl) (by kernel_rfl) (by kernel_rfl) (by kernel_rfl) (by kernel_rfl) (by kernel_rfl) h
end Go.Proofs.YtendlmdmbkcdnaaGreatDoor.tp
namespace Go.Proofs.YtendlmdmbkcdnaaGreatDoor.tp
open Go.RowKit Go.Maps Go.WideMaps oc sg ma hi
open Go.Lib (itoa index count indexB countB splitB decFrom decNat digitVal atoi)
set_option maxRecDepth 100000
theorem idx_hit : ∀ (a b : List UInt8), (46 : UInt8) ∉ a -> index (a ++ 46 :: b) [46] = (a.length : Int)
 | [], b, _ => by simp [index]
 | c :: a, b, h => by
  have h1 : (46 : UInt8) ≠ c := fun e => h (by rw [e]; exact List.mem_cons_self)
  have h2 := idx_hit a b (fun e => h (List.mem_cons_of_mem _ e))
  have h3 : ([46] : List UInt8).isPrefixOf (c :: (a ++ 46 :: b)) = false := by
   simp [List.isPrefixOf, h1]
  simp only [List.cons_append, index, h3, h2, List.length_cons]
  have h4 : ((a.length : Int) == -1) = false := by simp
  rw [h4]
  simp
theorem idx_miss : ∀ (a : List UInt8), (46 : UInt8) ∉ a -> index a [46] = -1
 | [], _ => by simp [index]
 | c :: a, h => by
  have h1 : (46 : UInt8) ≠ c := fun e => h (by rw [e]; exact List.mem_cons_self)
  have h2 := idx_miss a (fun e => h (List.mem_cons_of_mem _ e))
  have h3 : ([46] : List UInt8).isPrefixOf (c :: a) = false := by
   simp [List.isPrefixOf, h1]
  simp [index, h3, h2]
theorem sb_data (l : List UInt8) : (Sb l).data.toList = l := sb_list l
theorem sb_ext {a : ByteArray} {l : List UInt8} (h : a.data.toList = l) : a = Sb l := by
 apply ByteArray.ext
 apply Array.ext'
 simpa [Sb] using h
theorem ext_data (s : ByteArray) (a b : Nat) : (s.extract a b).data.toList = (s.data.toList.drop a).take (b - a) := by
 have h := Go.Lib.extract_toList s a b
 rwa [ByteArray.toList_eq] at h
theorem ib_hit (a b : List UInt8) (h : (46 : UInt8) ∉ a) : indexB (Sb (a ++ 46 :: b)) (Sb [46]) = ((a.length : Nat) : Int) := by
 show index (Sb _).data.toList (Sb [46]).data.toList = _
 rw [sb_data, sb_data]
 exact idx_hit a b h
theorem ib_miss (a : List UInt8) (h : (46 : UInt8) ∉ a) : indexB (Sb a) (Sb [46]) = -1 := by
 show index (Sb _).data.toList (Sb [46]).data.toList = _
 rw [sb_data, sb_data]
 exact idx_miss a h
theorem cut_tail (a b : List UInt8) : (Sb (a ++ 46 :: b)).extract (a.length + (Sb [46]).size) (Sb (a ++ 46 :: b)).size = Sb b := by
 apply sb_ext
 rw [ext_data, sb_data, sb_size, sb_size]
 have e : (a ++ 46 :: b).drop (a.length + ([46] : List UInt8).length) = b := by
  rw [List.length_singleton, <- List.drop_drop, List.drop_left]
  rfl
 rw [e, List.take_of_length_le]
 simp
 omega
theorem cut_head (a b : List UInt8) : (Sb (a ++ 46 :: b)).extract 0 (a.length + 0) = Sb a := by
 apply sb_ext
 rw [ext_data, sb_data]
 simp
theorem split1 (a : List UInt8) (h : (46 : UInt8) ∉ a) : countB (Sb a) (Sb [46]) = 0 /\ splitB (Sb [46]) 0 0 (Sb a) = [Sb a] := ⟨Go.Lib.countB_miss _ _ (ib_miss a h), rfl⟩
theorem split_more (a b : List UInt8) (h : (46 : UInt8) ∉ a) {n : Nat} {l : List ByteArray} (hb : countB (Sb b) (Sb [46]) = n /\ splitB (Sb [46]) 0 n (Sb b) = l) : countB (Sb (a ++ 46 :: b)) (Sb [46]) = n + 1 /\ splitB (Sb [46]) 0 (n + 1) (Sb (a ++ 46 :: b)) = Sb a :: l := by
 have h1 : 1 <= (Sb [46]).size := by rw [sb_size]; decide
 refine ⟨?_, ?_⟩
 ·rw [Go.Lib.countB_hit _ _ _ h1 (ib_hit a b h), cut_tail, hb.1]
  omega
 ·rw [Go.Lib.splitB_hit _ _ _ _ _ (ib_hit a b h), cut_tail, cut_head, hb.2]
theorem dec_digits : ∀ (l : List UInt8) (acc : Nat), (∀ c ∈ l, 48 <= c.toNat /\ c.toNat <= 57) -> decFrom acc l = some (l.foldl (fun n c => n * 10 + (c.toNat - 48)) acc)
 | [], acc, _ => rfl
 | c :: l, acc, h => by
  have h1 := h c List.mem_cons_self
  have h2 : digitVal c = some (c.toNat - 48) := by
   unfold digitVal
   simp [UInt8.le_iff_toNat_le]
   omega
  simp only [decFrom, h2, List.foldl_cons]
  exact dec_digits l _ (fun c hc => h c (List.mem_cons_of_mem _ hc))
theorem atoi_itoa {n : Int} (h : okNum n = true) : atoi (itoa n) = some n := by
 have hb := h
 simp only [okNum, Bool.and_eq_true, decide_eq_true_eq] at hb
 have hm := itoa_mem h
 have hn := numOf_dec n.toNat
 rw [itoa_nat hb.1] at hm ⊢
 have hd := dec_digits _ 0 hm
 rcases hl : Go.Lib.decDigits n.toNat with _ | ⟨c, l⟩
 ·exact absurd hl (decDigits_ne _)
 ·rw [hl] at hm hd hn
  have h1 := hm c List.mem_cons_self
  have e1 : (c == 45) = false := by rw [beq_eq_false_iff_ne]; rintro rfl; exact absurd h1 (by decide)
  have e2 : (c == 43) = false := by rw [beq_eq_false_iff_ne]; rintro rfl; exact absurd h1 (by decide)
  simp only [atoi, e1, e2, decNat, hd, List.isEmpty_cons]
  simp only [numOf] at hn
  rw [hn]
  simp
  omega
theorem no_dot {n : Int} (h : okNum n = true) : (46 : UInt8) ∉ itoa n := fun e => absurd (itoa_mem h _ e) (by decide)
theorem no_dot_t {n : Int} (h : okNum n = true) : (46 : UInt8) ∉ 116 :: itoa n := fun e => by
 rcases List.mem_cons.1 e with e | e
 ·cases e
 ·exact no_dot h e
theorem split_man {n : Int} (h : okNum n = true) : countB (Sb (manName n)) (Sb [46]) = 1 /\ splitB (Sb [46]) 0 1 (Sb (manName n)) = [Sb (116 :: itoa n), Sb [109, 97, 110]] := by
 have h1 := split_more (116 :: itoa n) [109, 97, 110] (no_dot_t h) (split1 [109, 97, 110] (by decide))
 have e : manName n = (116 :: itoa n) ++ 46 :: [109, 97, 110] := by simp [manName]
 rw [e]
 exact h1
theorem split_seg {n s : Int} (h : okNum n = true) (hs : okNum s = true) : countB (Sb (nameN n s)) (Sb [46]) = 2 /\ splitB (Sb [46]) 0 2 (Sb (nameN n s)) = [Sb (116 :: itoa n), Sb (itoa s), Sb [115, 101, 103]] := by
 have h1 := split_more (116 :: itoa n) _ (no_dot_t h) (split_more (itoa s) [115, 101, 103] (no_dot hs) (split1 [115, 101, 103] (by decide)))
 have e : nameN n s = (116 :: itoa n) ++ 46 :: (itoa s ++ 46 :: [115, 101, 103]) := by rw [nameN_eq]; rfl
 rw [e]
 exact h1
theorem split_hint {n s : Int} (h : okNum n = true) (hs : okNum s = true) : countB (Sb (hintN n s)) (Sb [46]) = 2 /\ splitB (Sb [46]) 0 2 (Sb (hintN n s)) = [Sb (116 :: itoa n), Sb (itoa s), Sb [104, 105, 110, 116]] := by
 have h1 := split_more (116 :: itoa n) _ (no_dot_t h) (split_more (itoa s) [104, 105, 110, 116] (no_dot hs) (split1 [104, 105, 110, 116] (by decide)))
 have e : hintN n s = (116 :: itoa n) ++ 46 :: (itoa s ++ 46 :: [104, 105, 110, 116]) := by simp [hintN]
 rw [e]
 exact h1
theorem trim_t (n : Int) : Go.Lib.trimPrefix (Sb (116 :: itoa n)).data.toList (Sb [116]).data.toList = itoa n := by
 rw [sb_data, sb_data]
 simp [Go.Lib.trimPrefix, Go.Lib.hasPrefix, List.isPrefixOf]
theorem no_tmp {l e : List UInt8} (h : l.getLast? = some 110 \/ l.getLast? = some 103 \/ l.getLast? = some 116) (he : e.getLast? = some 112) : Go.Lib.hasSuffix l e = false := by
 rw [<- Bool.not_eq_true]
 intro hs
 have h1 : e <:+ l := by simpa [Go.Lib.hasSuffix] using hs
 obtain ⟨t, rfl⟩ := h1
 have hne : e ≠ [] := by rintro rfl; cases he
 rw [List.getLast?_append, he] at h
 simp at h
end Go.Proofs.YtendlmdmbkcdnaaGreatDoor.tp
