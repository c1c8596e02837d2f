/-
  Texts of the proof joined by a program: Tpi Tpj Tpk.
-/
import Derived.Test.YtendlmdmbkcdnaaGreatDoorVw
import Derived.Test.YtendlmdmbkcdnaaGreatDoorVx
import Derived.Laws.StructEq
set_option linter.unusedSimpArgs false
set_option linter.unusedVariables false
namespace Go.Proofs.YtendlmdmbkcdnaaGreatDoor.tp
open Go.RowKit Go.Maps Go.WideMaps oc rc gh dk sg ma hi kd dd
set_option maxRecDepth 100000
theorem inv_new {i lim ret k : Nat} {f f2 : Nat} (hi : i < 1073741824) (hl : 256 <= lim /\ lim <= 65536) (hk : k < 1125899906842624) : Inv (newS i lim ret k) [⟨Sb (manName i), f2, fNew (manN (newS i lim ret k).man)⟩, ⟨Sb (nameN i ((1 : Nat) : Int)), f, fSync (fApp ⟨[], [], []⟩ (headN i 1 0))⟩] := by
 constructor
 ·exact hi
 ·exact hl.1
 ·exact hl.2
 ·exact hk
 ·rfl
 ·rfl
 ·intro k o h
  cases h
 ·rfl
 ·exact Nat.zero_le _
 ·rfl
 ·exact Nat.le_refl _
 ·exact Or.inl (Nat.zero_le _)
 ·intro o h
  cases h
 ·intro r h
  cases h
 ·rfl
 ·intro k r h
  cases h
 ·rfl
 ·exact tabok0 _
 ·exact tidy_empty
 ·exact fun _ => rfl
 ·intro pid a s o h
  have h2 := h.2
  cases h2
 ·intro z hz hn
  simp only [List.mem_cons, List.not_mem_nil, or_false] at hz
  rcases hz with rfl | rfl
  ·exact Or.inl rfl
  ·exact Or.inr (Or.inl ⟨1, Nat.le_refl _, Nat.le_refl _, rfl⟩)
 ·refine ⟨_, List.mem_cons_of_mem _ List.mem_cons_self, rfl, ?_, ?_, rfl⟩
  ·simp [fSync, fApp, newS, segB, bodyR]
  ·simp [fSync, fApp, newS, segB, bodyR, appAll, appCh]
 ·exact ⟨_, List.mem_cons_self, rfl, calm_new _⟩
 ·intro o h
  cases h
def vol (X : TS) : Nat := 1200 * (X.en + X.wr.length) + 720000 * X.cur
structure Stp (X : TS) (fs : List Fil) (no L : Nat) (X' : TS) (fs' : List Fil) (no' L' : Nat) : Prop where
 inv : Inv X' fs'
 i : X'.i = X.i
 cur : X.cur <= X'.cur
 en : X.en <= X'.en
 no : no' + cost X <= no + cost X'
 L : L' + 8 * X.cur <= L + 8 * X'.cur
 len : fs'.length + 2 * X.cur <= fs.length + 2 * X'.cur
 sum : sumF fs' + vol X <= sumF fs + vol X'
 back : ∀ z ∈ fs', ¬ OfN X.i z.name -> z ∈ fs
 forth : ∀ z ∈ fs, ¬ OfN X.i z.name -> z ∈ fs'
section
variable {X X' X'' : TS} {fs fs' fs'' : List Fil} {no L no' L' no'' L'' : Nat} {x : Fil} {l : List Fil} {q : Int}
theorem Stp.refl (h : Inv X fs) : Stp X fs no L X fs no L := ⟨h, rfl, Nat.le_refl _, Nat.le_refl _, Nat.le_refl _, Nat.le_refl _, Nat.le_refl _, Nat.le_refl _, fun _ h _ => h, fun _ h _ => h⟩
theorem Stp.trans (h : Stp X fs no L X' fs' no' L') (k : Stp X' fs' no' L' X'' fs'' no'' L'') : Stp X fs no L X'' fs'' no'' L'' := by
 have h1 := h.no
 have h2 := h.L
 have h3 := h.len
 have h4 := h.sum
 have h5 := h.cur
 have h6 := h.en
 have k1 := k.no
 have k2 := k.L
 have k3 := k.len
 have k4 := k.sum
 have k5 := k.cur
 have k6 := k.en
 exact ⟨k.inv, k.i.trans h.i, by omega, by omega, by omega, by omega, by omega, by omega, fun z hz hn => h.back z (k.back z hz (by rw [h.i]; exact hn)) hn, fun z hz hn => k.forth z (h.forth z hz hn) (by rw [h.i]; exact hn)⟩
theorem Stp.other (h : Stp X fs no L X' fs' no' L') (hX : X.i < 1073741824) {Y : TS} (hY : Inv Y fs) (hne : Y.i ≠ X.i) : Inv Y fs' := by
 have nt : ∀ {s : ByteArray}, OfN Y.i s -> ¬ OfN X.i s := fun hs => ofN_ne hY.i hX hne hs
 exact { hY with
  own := fun z hz hn => hY.own z (h.back z hz (nt hn)) hn
  fcur := by
   obtain ⟨x, hx, h1, h2⟩ := hY.fcur
   exact ⟨x, h.forth x hx (nt (by rw [h1]; exact ofN_seg _ _)), h1, h2⟩
  fman := by
   obtain ⟨x, hx, h1, h2⟩ := hY.fman
   exact ⟨x, h.forth x hx (nt (by rw [h1]; exact ofN_man _)), h1, h2⟩
  fold := fun o ho => by
   obtain ⟨x, hx, h1, h2⟩ := hY.fold o ho
   exact ⟨x, h.forth x hx (nt (by rw [h1]; exact ofN_seg _ _)), h1, h2⟩ }
theorem Stp.clk (h : Inv X fs) {k : Nat} (hk : k < 1125899906842624) : Stp X fs no L (clockS X k) fs no L := ⟨h.clk hk, rfl, Nat.le_refl _, Nat.le_refl _, Nat.le_refl _, Nat.le_refl _, Nat.le_refl _, Nat.le_refl _, fun _ h _ => h, fun _ h _ => h⟩
theorem Stp.commit (h : Inv X fs) (hp : fs.Perm (x :: l)) (hx : x.name = Sb (nameN X.i X.cur)) (hf : CurF X x.st) (hn : no' <= no + min 1 X.wr.length) : Stp X fs no L (commitS X) (cmF X x :: l) no' L := by
 have hoc : OfN X.i x.name := by rw [hx]; exact ofN_seg _ _
 refine ⟨h.commit hp hx hf, rfl, Nat.le_refl _, ?_, ?_, Nat.le_refl _, ?_, ?_, ?_, ?_⟩
 ·show X.en <= X.en + X.wr.length
  omega
 ·simp only [cost, commitS, List.length_nil]
  omega
 ·have := hp.length_eq
  simp only [List.length_cons] at this ⊢
  rw [this]
  exact Nat.le_refl _
 ·rw [field_sum_size, <- sumF_perm hp]
  simp [vol, commitS]
 ·intro z hz hz2
  rcases List.mem_cons.1 hz with rfl | hz
  ·exact absurd hoc hz2
  ·exact hp.mem_iff.2 (List.mem_cons_of_mem _ hz)
 ·intro z hz hz2
  exact List.mem_cons_of_mem _ (mem_tail hp hz (fun e => hz2 (by rw [e]; exact hoc)))
theorem rightF_len (size : Int) : ∀ (l : List HE) (po pe : Int) (D D' : DataW Unit), rightF size l po pe D = some D' -> (∀ y ∈ l, 14 <= y.size) -> l ≠ [] -> pe + 14 * l.length + 17 <= size
 | [], _, _, _, _, _, _, h => absurd rfl h
 | y :: l, po, pe, D, D', h, hz, _ => by
  simp only [rightF] at h
  split at h
  ·cases h
  ·rename_i hc
   have hy := hz y List.mem_cons_self
   rcases l with _ | ⟨y2, l⟩
   ·simp only [List.length_cons, List.length_nil]
    omega
   ·have := rightF_len size (y2 :: l) _ _ _ _ h (fun z hz' => hz z (List.mem_cons_of_mem _ hz')) (by simp)
    simp only [List.length_cons] at this ⊢
    omega
theorem rightB_len {size : Int} {l : List HE} (h : rightB size l = true) (hz : ∀ y ∈ l, 14 <= y.size) (h0 : 38 <= size) : 14 * (l.length : Int) <= size := by
 rcases l with _ | ⟨y, l⟩
 ·simp
  omega
 ·unfold rightB rightO at h
  split at h
  ·cases h
  ·rename_i D hD
   have := rightF_len size (y :: l) _ _ _ _ hD hz (by simp)
   omega
theorem hsOk_sum {B : Nat} {hs : List Fil} (h : HsOk X B hs) (hb : 38 + (bodyR (X.rs ++ X.wr)).length <= 65536) (hg : ∀ r ∈ X.rs ++ X.wr, checkN r = 0) : sumF hs <= 700000 /\ hs.length <= 1 := by
 rcases h with rfl | ⟨es, f, _, rfl, h1, h2, h3⟩
 ·exact ⟨Nat.zero_le _, Nat.zero_le _⟩
 ·refine ⟨?_, Nat.le_refl _⟩
  have hk : ∀ y ∈ es, y.key.size <= 64 /\ 14 <= y.size := fun y hy => by
   obtain ⟨z, hz, rfl⟩ := h1 y hy
   have h4 := entH_ok hg (by omega) hz
   exact ⟨h4.k1, h4.s0⟩
  have h5 := rightB_len h3 (fun y hy => (hk y hy).2) (by omega)
  have h6 := hbodyL_len (X.cur : Int) ((21 : Int) + ((bodyR (X.rs ++ X.wr)).length : Nat) + 17) es (fun y hy => (hk y hy).1)
  have e : sumF [(⟨Sb (hintN X.i X.cur), f, fNew (hencL (X.cur : Int) ((21 : Int) + ((bodyR (X.rs ++ X.wr)).length : Nat) + 17) es)⟩ : Fil)] = (hencL (X.cur : Int) ((21 : Int) + ((bodyR (X.rs ++ X.wr)).length : Nat) + 17) es).length := by
   rw [sumF_new]
   rfl
  rw [e]
  unfold hencL
  simp only [List.length_append, List.length_cons, List.length_nil, be4_length]
  omega
theorem roll_sumle (hp : fs.Perm (x :: l)) {xm : Fil} {l' : List Fil} (hR : RollH X x l xm l' q no L) {ps : List PrS} (hps : ProdsOk (X.en + X.wr.length) ps) (hpl : ps.length <= 64) {hs : List Fil} {B f f2 : Nat} (hhs : HsOk X B hs) (hb : 38 + (bodyR (X.rs ++ X.wr)).length <= 65536) :
  sumF (⟨Sb (manName X.i), f2, fNew (manN (rollM X ps))⟩ :: ⟨Sb (nameN X.i ((X.cur + 1 : Nat) : Int)), f, fSync (fApp ⟨[], [], []⟩ (headN X.i (X.cur + 1) (X.en + X.wr.length)))⟩ :: (hs ++ sealF X x :: l')) <= sumF fs + 710000 := by
 have h1 := hsOk_sum hhs hb hR.good
 have h2 := hR.manl ps hps hpl
 have e : ∀ (a b : List Fil), sumF (a ++ b) = sumF a + sumF b := fun a b => by simp [sumF]
 have e2 : ∀ (a : Fil) (b : List Fil), sumF (a :: b) = a.st.seen.length + sumF b := fun a b => by simp [sumF]
 have h3 : sumF fs = x.st.seen.length + sumF l := (sumF_perm hp).trans (e2 _ _)
 have h4 : sumF l = xm.st.seen.length + sumF l' := (sumF_perm hR.perm).trans (e2 _ _)
 have h5 : sumF (sealF X x :: l') = x.st.seen.length + sumF l' + 17 := by rw [sealF_size, e2]
 have h6 : sumF [(⟨Sb (nameN X.i ((X.cur + 1 : Nat) : Int)), f, fSync (fApp ⟨[], [], []⟩ (headN X.i (X.cur + 1) (X.en + X.wr.length)))⟩ : Fil)] = 21 := by simp [sumF, fSync, fApp, headN_len]
 rw [e2] at h6
 rw [sumF_new, e2, e]
 have h7 : sumF [] = 0 := rfl
 omega
end
end Go.Proofs.YtendlmdmbkcdnaaGreatDoor.tp
namespace Go.Proofs.YtendlmdmbkcdnaaGreatDoor.tp
open Go.RowKit Go.Maps Go.WideMaps oc rc gh dk sg ma hi kd dd
open Go.Lib (hid)
set_option maxRecDepth 100000
section
variable {X : TS} {fs : List Fil} {x : Fil} {l : List Fil} {q : Int} {no L : Nat}
theorem Stp.add (h : Inv X fs) (hn : (fs.map (·.name)).Nodup) (hp : fs.Perm (x :: l)) (hx : x.name = Sb (nameN X.i X.cur)) {r : Rc} {ck : Nat} (hck : ck < 1125899906842624) {X2 : TS} {fs2 : List Fil} {no2 L2 : Nat} (hr : r.off = ((X.en + X.wr.length : Nat) : Int)) (hc : AddC X fs x l q no L r ck X2 fs2 no2 L2) :
  Stp X fs no L X2 fs2 no2 L2 /\ X2.all ++ X2.wr = X.all ++ X.wr ++ [r] /\ X2.clock = ck := by
 obtain ⟨a1, a2, a3, a4, a5, a6, a7, a8, a9, a10⟩ := h.addC hn hp hx hck hr hc
 obtain ⟨hg, _, Xm, fsm, nom, Lm, x2, l2, D, hM, hnm, hp2, hx2, hD, rfl, rfl, rfl, rfl⟩ := hc
 have hre := (encR_size hg).2
 have e2 : ∀ (a : Fil) (b : List Fil), sumF (a :: b) = a.st.seen.length + sumF b := fun a b => by simp [sumF]
 have e4 := sumF_perm hp2
 rw [e2] at e4
 have e5 : sumF (⟨x2.name, x2.blk, fApp x2.st (encR r)⟩ :: l2) = sumF fsm + (encR r).length := by
  rw [e2, e4]
  simp only [fApp, List.length_append]
  omega
 rcases hM with ⟨rfl, rfl, rfl, rfl, hr4⟩ | ⟨ps, hs', f, f2, xm, l', B, hps, hpl, hhs, rfl, rfl, hR, hno, hL, hsum⟩
 ·refine ⟨⟨a1, a4, a8, Nat.le_refl _, a5, a6, a7, ?_, a9, a10⟩, a2, a3⟩
  rw [e5]
  simp only [vol, addS, clockS, List.length_append, List.length_cons, List.length_nil]
  omega
 ·refine ⟨⟨a1, a4, a8, ?_, a5, a6, a7, ?_, a9, a10⟩, a2, a3⟩
  ·show X.en <= X.en + X.wr.length
   omega
  ·rw [e5]
   have h7 := roll_sumle hp hR hps hpl (f := f) (f2 := f2) hhs h.body
   simp only [vol, addS, clockS, rollS, List.length_append, List.length_cons, List.length_nil]
   simp only [clockS] at h7
   omega
theorem Stp.roll (h : Inv X fs) (hp : fs.Perm (x :: l)) (hx : x.name = Sb (nameN X.i X.cur)) (hf : CurF X x.st) {xm : Fil} {l' : List Fil} (hR : RollH X x l xm l' q no L) {ps : List PrS} (hps : ProdsOk (X.en + X.wr.length) ps) (hpl : ps.length <= 64) {hs : List Fil} {B f f2 no2 L2 : Nat} (hhs : HsOk X B hs) (hno : no2 <= no + 14) (hL : L2 <= L + 8) :
  Stp X fs no L (rollS X ps) (⟨Sb (manName X.i), f2, fNew (manN (rollM X ps))⟩ :: ⟨Sb (nameN X.i ((X.cur + 1 : Nat) : Int)), f, fSync (fApp ⟨[], [], []⟩ (headN X.i (X.cur + 1) (X.en + X.wr.length)))⟩ :: (hs ++ sealF X x :: l')) no2 L2 := by
 have hoc : OfN X.i x.name := by rw [hx]; exact ofN_seg _ _
 refine ⟨h.roll hp hx hf hR hhs, rfl, ?_, ?_, ?_, ?_, ?_, ?_, ?_, ?_⟩
 ·show X.cur <= X.cur + 1
  omega
 ·show X.en <= X.en + X.wr.length
  omega
 ·simp only [cost, rollS, List.length_nil]
  omega
 ·show L2 + 8 * X.cur <= L + 8 * (X.cur + 1)
  omega
 ·have e2 := hp.length_eq
  have e3 := hR.perm.length_eq
  have e4 := (hsOk_sum hhs h.body hR.good).2
  simp only [List.length_cons, List.length_append] at e2 e3 ⊢
  show _ <= fs.length + 2 * (X.cur + 1)
  omega
 ·have h7 := roll_sumle hp hR hps hpl (f := f) (f2 := f2) hhs h.body
  simp only [vol, rollS, List.length_nil]
  omega
 ·intro z hz hz2
  simp only [List.mem_cons, List.mem_append] at hz
  rcases hz with rfl | rfl | hz3 | rfl | hz3
  ·exact absurd (ofN_man _) hz2
  ·exact absurd (ofN_seg _ _) hz2
  ·rcases hhs with rfl | ⟨es, g, _, rfl, _⟩
   ·cases hz3
   ·rw [List.mem_singleton] at hz3
    subst hz3
    exact absurd (ofN_hint _ _) hz2
  ·exact absurd hoc hz2
  ·exact hp.mem_iff.2 (List.mem_cons_of_mem _ (hR.perm.mem_iff.2 (List.mem_cons_of_mem _ hz3)))
 ·intro z hz hz2
  have h1 : z ∈ l' := mem_tail hR.perm (mem_tail hp hz (fun e => hz2 (by rw [e]; exact hoc))) (fun e => hz2 (by rw [e, hR.mnm]; exact ofN_man _))
  exact List.mem_cons_of_mem _ (List.mem_cons_of_mem _ (List.mem_append_right _ (List.mem_cons_of_mem _ h1)))
end
structure Room (fs : List Fil) (no L : Nat) : Prop where
 no : no + 100 <= 1099511627776
 L : L + 100 <= 1073741824
 len : fs.length <= 60000
theorem checkN_vals (r : Rc) : checkN r = 44 \/ checkN r = 45 \/ checkN r = 42 \/ checkN r = 43 \/ checkN r = 0 := by
 unfold checkN
 repeat' split
 all_goals simp
def Why (X : TS) (fs : List Fil) (q : Int) (now : Int) (r : Rc) (er : Int) : Prop :=
 (er = 3 /\ ¬ (0 <= now /\ now < 1125899906842624)) \/ (er = checkN r /\ (er = 42 \/ er = 43 \/ er = 44 \/ er = 45)) \/ (er = 33 /\ checkN r = 0 /\ q - (sumF fs : Nat) - ((encR r).length : Nat) < 4096) \/ ((er = 90 \/ er = 91 \/ er = 92) /\ checkN r = 0 /\ 0 < r.pid) \/ ((er = 102 \/ er = 103) /\ checkN r = 0 /\ X.man.segs.length = 64)
def App3 (w : World) (G : Gh) (τ t d : Nat) (X : TS) (q : Int) (fs : List Fil) (no L : Nat) (now : Int) (x : Wr) (e : Ending) (w' : World) : Prop :=
  ∃ off ag er G' X' fs' no' L', e = .returned (.tuple #[.int .i64 off, .bool ag, .int .i64 er]) /\ TopAt w' G' τ t d X' q fs' no' L' /\ Fx (CT τ) G G' w w' /\ Stp X fs no L X' fs' no' L' /\
    ((er ≠ 0 /\ Why X fs q now (x.rc ((X.en + X.wr.length : Nat) : Int) (X'.clock : Int)) er /\ X'.all ++ X'.wr = X.all ++ X.wr) \/
     (er = 0 /\ ag = true /\ X'.all ++ X'.wr = X.all ++ X.wr /\ ∃ (k : Nat) (r : Rc), off = (k : Int) /\ (X.all ++ X.wr)[k]? = some r /\ r.pid = x.pid /\ r.seq = x.seq) \/
     (er = 0 /\ ag = false /\ off = ((X.en + X.wr.length : Nat) : Int) /\ X'.all ++ X'.wr = X.all ++ X.wr ++ [x.rc off (X'.clock : Int)]))
theorem app3 (w : World) (G : Gh) (τ t d : Nat) (X : TS) (q : Int) (fs : List Fil) (no L : Nat) (h : TopAt w G τ t d X q fs no L) (hI : Inv X fs) (hr : Room fs no L) (now : Int) (x : Wr) :
  Calls Tryz.prog 13 #[.pointer (some ⟨t, 0, none⟩), .int .i64 now, .agg x.cells] w (App3 w G τ t d X q fs no L now x) := by
 by_cases hn : 0 <= now /\ now < 1125899906842624
 ·obtain ⟨nw, rfl⟩ : ∃ n : Nat, now = (n : Int) := ⟨now.toNat, by omega⟩
  obtain ⟨y, l, hp, hy, hf⟩ := hI.pick
  have hnd := h.nd
  have hck : max X.clock nw < 1125899906842624 := by have := hI.clock; omega
  have hA : AppH X fs y l q no L := hI.appH hp hy (by have := hr.no; omega) (by have := hr.L; omega) hr.len hnd
  refine (append_any w G τ t d X q fs no L h nw x.key x.val x.tomb x.pid x.seq (by omega) y l hA (x.rc ((X.en + X.wr.length : Nat) : Int) ((max X.clock nw : Nat) : Int)) (max X.clock nw) rfl rfl).mono ?_
  rintro e w' ⟨off, ag, er, rfl, ⟨hT, hx, hS⟩ | ⟨G', X2, fs2, no2, L2, hT, hx, hC | ⟨rfl, rfl, rfl, hC⟩⟩⟩
  ·refine ⟨off, ag, er, G, _, fs, no, L, rfl, hT, hx, Stp.clk hI hck, ?_⟩
   rcases hS with ⟨h1, h2⟩ | ⟨h1, h2, h3, h4, a, h5⟩ | ⟨h1, h2, h3⟩ | ⟨h1, h2, h3⟩
   ·refine Or.inl ⟨h2, Or.inr (Or.inl ⟨h1, ?_⟩), rfl⟩
    have := checkN_vals (x.rc ((X.en + X.wr.length : Nat) : Int) ((max X.clock nw : Nat) : Int))
    rw [<- h1] at this
    omega
   ·obtain ⟨k, r, g1, g2, g3, g4⟩ := hI.known _ _ _ _ h5
    exact Or.inr (Or.inl ⟨h1, h2, rfl, k, r, g2, g1, g3, g4⟩)
   ·exact Or.inl ⟨by omega, Or.inr (Or.inr (Or.inr (Or.inl ⟨h1, h2, h3⟩))), rfl⟩
   ·exact Or.inl ⟨by omega, Or.inr (Or.inr (Or.inl ⟨h1, h2, h3⟩)), rfl⟩
  ·obtain ⟨h1, h2, h3, h4, rfl, rfl, h5, h6, rfl⟩ := hC
   refine ⟨off, ag, er, G', _, _, no2, _, rfl, hT, hx, (Stp.clk hI hck).trans (Stp.commit (hI.clk hck) hp hy ⟨hf.seen, hf.safe, hf.chs⟩ h6), Or.inl ⟨by omega, ?_, commit_all _⟩⟩
   refine Or.inr (Or.inr (Or.inr (Or.inr ⟨h1, h2, ?_⟩)))
   have h7 : X.man.segs.length = X.cur := by rw [hI.segs]; simp [TS.rows]; have := hI.cur; omega
   have h8 := hI.cur1
   omega
  ·obtain ⟨g1, g2, g3⟩ := Stp.add hI hnd hp hy hck rfl hC
   refine ⟨_, false, 0, G', X2, fs2, no2, L2, rfl, hT, hx, g1, Or.inr (Or.inr ⟨rfl, rfl, rfl, ?_⟩)⟩
   rw [g2, g3]
 ·refine (append_time w G τ t d X q fs no L h now x.key x.val x.tomb x.pid x.seq hn).mono ?_
  rintro e w' ⟨rfl, hb⟩
  obtain ⟨p, h⟩ := h
  exact ⟨0, false, 3, G, X, fs, no, L, rfl, ⟨p, h.below hb⟩, Fx.below hb, Stp.refl hI, Or.inl ⟨by decide, Or.inl ⟨rfl, hn⟩, rfl⟩⟩
theorem commit3 (w : World) (G : Gh) (τ t d : Nat) (X : TS) (q : Int) (fs : List Fil) (no L : Nat) (h : TopAt w G τ t d X q fs no L) (hI : Inv X fs) (hr : Room fs no L) :
  Calls Tryz.prog 30 #[.pointer (some ⟨t, 0, none⟩)] w fun e w' => e = .returned (.int .i64 0) /\ ∃ G' fs' no', TopAt w' G' τ t d (commitS X) q fs' no' L /\ Fx (CT τ) G G' w w' /\ Stp X fs no L (commitS X) fs' no' L := by
 obtain ⟨y, l, hp, hy, hf⟩ := hI.pick
 have hno := hr.no
 by_cases hw : X.wr = []
 ·refine (commit_none w G τ t d X q fs no L h hw).mono ?_
  rintro e w' ⟨rfl, rfl⟩
  refine ⟨rfl, G, fs, no, ?_, Fx.refl _ _ _, ?_⟩
  ·rw [commitS_nil X hw (hI.da hw)]
   exact h
  ·rw [commitS_nil X hw (hI.da hw)]
   exact Stp.refl hI
 ·refine (commit_some w G τ t d X q fs no L h y l (hI.cmh hp hy) hw (by omega)).mono ?_
  rintro e w' ⟨rfl, G', hT, hx⟩
  have hwl : 0 < X.wr.length := by
   rcases hz : X.wr with _ | ⟨a, b⟩
   ·exact absurd hz hw
   ·simp
  refine ⟨rfl, G', _, no + 1, hT, hx, ?_⟩
  rw [<- cmF_some hw]
  exact Stp.commit hI hp hy hf (by omega)
set_option maxHeartbeats 2000000 in
theorem roll_none (w : World) (G : Gh) (τ t d : Nat) (X : TS) (q : Int) (fs : List Fil) (no L : Nat) (h : TopAt w G τ t d X q fs no L) (hc : X.rs ++ X.wr = []) :
  Calls Tryz.prog 41 #[.pointer (some ⟨t, 0, none⟩)] w fun e w' => e = .returned (.int .i64 0) /\ Below w.heap.size w w' := by
 obtain ⟨p, h⟩ := h
 have c21 : w.cell? ⟨t, 21, none⟩ = some (.bool false) := (h.top.cell 21).trans (by rw [<- h.egone]; rfl)
 have c11 : w.cell? ⟨t, 11, none⟩ = some (.pointer (some ⟨p.g, 0, none⟩)) := (h.top.cell 11).trans (by rw [<- h.eseg]; rfl)
 have HIN := hid (info_any w G τ p.g d X.seg h.seg)
 have HC := hid hc
 clear h hc
 go_enter Tryz.func41, Tryz.ntmps41
 go_wp2_with fail
 refine HIN.out.mono ?_
 rintro e w1 ⟨rfl, hb1⟩
 have HB1 := hid hb1
 clear hb1 c21 c11 HIN
 unfold TS.seg Inf.cells
 rw [HC.out]
 simp only [List.length_nil]
 have HBA : Hid (∀ y, Below w.heap.size w (w1.alloc y)) := hid (fun y => HB1.out.alloc HB1.out.size y)
 go_wp2_with fail
 go_ret
 exact ⟨rfl, HBA.out _⟩
theorem roll3 (w : World) (G : Gh) (τ t d : Nat) (X : TS) (q : Int) (fs : List Fil) (no L : Nat) (h : TopAt w G τ t d X q fs no L) (hI : Inv X fs) (hr : Room fs no L) (hq : ((sumF fs : Nat) : Int) + 4096 <= q) :
  Calls Tryz.prog 41 #[.pointer (some ⟨t, 0, none⟩)] w fun e w' => (e = .returned (.int .i64 0) \/ e = .returned (.int .i64 102) \/ e = .returned (.int .i64 103)) /\ ∃ G' X' fs' no' L', TopAt w' G' τ t d X' q fs' no' L' /\ Fx (CT τ) G G' w w' /\ Stp X fs no L X' fs' no' L' /\ X'.all ++ X'.wr = X.all ++ X.wr := by
 obtain ⟨y, l, hp, hy, hf⟩ := hI.pick
 have hno := hr.no
 have hL := hr.L
 have h7 : X.man.segs.length = X.cur := by rw [hI.segs]; simp [TS.rows]; have := hI.cur; omega
 rcases Nat.eq_zero_or_pos (X.rs ++ X.wr).length with hc | hc
 ·have hc2 : X.rs ++ X.wr = [] := List.eq_nil_of_length_eq_zero hc
  refine (roll_none w G τ t d X q fs no L h hc2).mono ?_
  rintro e w' ⟨rfl, hb⟩
  obtain ⟨p, h⟩ := h
  exact ⟨Or.inl rfl, G, X, fs, no, L, ⟨p, h.below hb⟩, Fx.below hb, Stp.refl hI, rfl⟩
 ·by_cases hs : X.man.segs.length <= 63
  ·obtain ⟨xm, l', hR⟩ := hI.rollH (q := q) (no := no) (L := L) hp hy hc hs (by rw [<- sumF_perm hp]; exact hq) (by omega) (by omega) hr.len
   refine (roll_some w G τ t d X q fs no L h y l (hI.cmh hp hy) xm l' hR).mono ?_
   rintro e w' ⟨G', ps, hs', f, f2, no', L', rfl, hps, hpl, hhs, hT, hx, hn', hL', _⟩
   exact ⟨Or.inl rfl, G', _, _, no', L', hT, hx, Stp.roll hI hp hy hf hR hps hpl hhs hn' hL', roll_all X ps⟩
  ·have hst := (hI.commit hp hy hf).sth
   refine (roll_full w G τ t d X q fs no L h y l (hI.cmh hp hy) hI.da (by omega) hc (by omega) hst).mono ?_
   rintro e w' ⟨he, G', no', hT, hx, hn1, hn2⟩
   exact ⟨Or.inr he, G', _, _, no', L, hT, hx, Stp.commit hI hp hy hf hn2, commit_all X⟩
def RcsAt (w : World) (A : Option Addr) (l : List Rc) : Prop := 0 < l.length -> ∃ b, A = some ⟨b, 0, none⟩ /\ b < w.heap.size /\ ∀ (j : Nat) (x : Rc) (i : Nat) (v : Value), l[j]? = some x -> (rcC x)[i]? = some v -> w.cell? ⟨b, j * 7 + i, none⟩ = some v
theorem rcC_len (l : List Rc) : (l.flatMap rcC).length = l.length * 7 := by
 induction l with
 | nil => rfl
 | cons x l ih =>
  rw [List.flatMap_cons, List.length_append, ih]
  simp [rcC]
  omega
theorem RcsAt.of_own {w : World} {B n c : Nat} {t : TypeId} {A : Option Addr} {l : List Rc} (h : w.ownsRow B t 7 (.slice A n c) n (l.flatMap rcC)) : RcsAt w A l := fun h0 => by
 have hl := h.1
 rw [rcC_len] at hl
 obtain ⟨g, cap, hv, _, hlt⟩ := h.form (by omega)
 injection hv with h1 h2 h3
 subst h1
 subst h3
 refine ⟨g, rfl, hlt, fun j x i v hj hi => ?_⟩
 have := h.cells (g := g) rfl (j * 7 + i) v (flat_get rcC 7 (fun _ => rfl) l j i x v hj hi)
 rwa [add_flat, Nat.zero_add] at this
theorem RcsAt.below {w w' : World} {A : Option Addr} {l : List Rc} (h : RcsAt w A l) (hb : Below w.heap.size w w') : RcsAt w' A l := fun h0 => by
 obtain ⟨b, rfl, hlt, hc⟩ := h h0
 exact ⟨b, rfl, Nat.lt_of_lt_of_le hlt hb.size, fun j x i v hj hi => (hb.cell (by exact hlt)).trans (hc j x i v hj hi)⟩
theorem rec_neq (r : Rc) (w : World) : (binOp .neq 47 (.agg #[.int .i64 r.kind, .int .i64 r.off, .int .i64 r.time, .int .i64 r.pid, .int .i64 r.seq, .string r.key, .string r.val]) (.agg #[.int .i64 r.kind, .int .i64 r.off, .int .i64 r.time, .int .i64 r.pid, .int .i64 r.seq, .string r.key, .string r.val])).run Tryz.prog w = .ok (.bool false) w := by
 go_simp
set_option maxHeartbeats 4000000 in
theorem alike_same (w : World) (A B : Option Addr) (c c2 : Nat) (l : List Rc) (hA : RcsAt w A l) (hB : RcsAt w B l) (hl : l.length <= 1073741824) :
  Calls Tryz.prog 18 #[.slice A l.length c, .slice B l.length c2] w fun e w' => e = .returned (.bool true) /\ Below w.heap.size w w' := by
 have HA := hid hA
 have HB := hid hB
 obtain ⟨n, hn⟩ : ∃ n, l.length = n := ⟨_, rfl⟩
 have HN := hid hn
 rw [hn]
 have hnl : n <= 1073741824 := by omega
 have HNL := hid hnl
 clear hA hB hl hn hnl
 go_enter Tryz.func18, Tryz.ntmps18
 go_wp2_with fail
 go_loopw [5] (fun i wr => ∃ k : Nat, k <= n /\ i = .int .i64 (k : Int) /\ Hid (Below w.heap.size w wr)) (fun i _ => n - (intOf i).toNat)
 case atStart => exact ⟨0, Nat.zero_le _, rfl, hid (Below.refl _ _)⟩
 case round =>
  obtain ⟨k, hk, rfl, HW⟩ := hrel
  by_cases hlt : k < n
  ·have g1 : decide ((k : Int) < (n : Int)) = true := decide_eq_true (by omega)
   obtain ⟨x, hx⟩ : ∃ x, l[k]? = some x := ⟨_, List.getElem?_eq_getElem (by rw [HN.out]; exact hlt)⟩
   obtain ⟨b, hbA, hbl, hbc⟩ := HA.out (by rw [HN.out]; omega)
   obtain ⟨b2, hbA2, hbl2, hbc2⟩ := HB.out (by rw [HN.out]; omega)
   rw [hbA, hbA2]
   obtain ⟨x0, x1, x2, x3, x4, x5, x6⟩ := x
   have HCA : Hid (∀ (j : Nat) (v : Value), (rcC ⟨x0, x1, x2, x3, x4, x5, x6⟩)[j]? = some v -> ∀ W, Below w.heap.size w W -> W.cell? ⟨b, k * 7 + j, none⟩ = some v) := hid (fun j v hj W hW => (hW.cell (by exact hbl)).trans (hbc k _ j v hx hj))
   have HCB : Hid (∀ (j : Nat) (v : Value), (rcC ⟨x0, x1, x2, x3, x4, x5, x6⟩)[j]? = some v -> ∀ W, Below w.heap.size w W -> W.cell? ⟨b2, k * 7 + j, none⟩ = some v) := hid (fun j v hj W hW => (hW.cell (by exact hbl2)).trans (hbc2 k _ j v hx hj))
   have HLT := hid hlt
   clear hbA hbA2 hbl hbl2 hbc hbc2 hx
   go_wp2_with fail
   refine wp_region_head 8 (fun W => Below w.heap.size w W) (by kernel_rfl) (by kernel_rfl) (fun w3 hh3 hb3 => ?_)
   have HB3 : Hid (Below w.heap.size w w3) := hid (HW.out.trans (hb3.mono HW.out.size))
   have hne0 : Nonempty (Held (fun W => Below w.heap.size w W)) := ⟨⟨_, HB3.out⟩⟩
   have kA : ∀ w', (∃ p' : Held (fun W => Below w.heap.size w W), w' = p'.w) -> ∀ (j : Nat) (v : Value), ([.int .i64 x0, .int .i64 x1, .int .i64 x2, .int .i64 x3, .int .i64 x4, .string x5, .string x6] : List Value)[j]? = some v -> w'.cell? (Addr.add ⟨b, k * 7, none⟩ j) = some v := by
    rintro w' ⟨p', rfl⟩ j v hj
    rw [add_flat]
    exact HCA.out j v hj _ p'.h
   have kB : ∀ w', (∃ p' : Held (fun W => Below w.heap.size w W), w' = p'.w) -> ∀ (j : Nat) (v : Value), ([.int .i64 x0, .int .i64 x1, .int .i64 x2, .int .i64 x3, .int .i64 x4, .string x5, .string x6] : List Value)[j]? = some v -> w'.cell? (Addr.add ⟨b2, k * 7, none⟩ j) = some v := by
    rintro w' ⟨p', rfl⟩ j v hj
    rw [add_flat]
    exact HCB.out j v hj _ p'.h
   clear hh3 hb3
   refine headI_batch 0 8 (by kernel_rfl) (by kernel_rfl) HB3.out ?_
   simp only [List.take, List.drop]
   repeat (first | go_big_quiet_skip | (with_reducible refine wpQuiet_load_list (o := ⟨some 20, .load 47 (.tmp 19), _, _, _, _⟩) rfl 47 (.tmp 19) rfl ⟨b, k * 7, none⟩ rfl [.int .i64 x0, .int .i64 x1, .int .i64 x2, .int .i64 x3, .int .i64 x4, .string x5, .string x6] kA _ Tryz.underlying47 rfl (by kernel_rfl) ?_; simp only [Act.put, List.setIfInBounds_toArray, List.set_cons_succ, List.set_cons_zero]) | (with_reducible refine wpQuiet_load_list (o := ⟨some 24, .load 47 (.tmp 23), _, _, _, _⟩) rfl 47 (.tmp 23) rfl ⟨b2, k * 7, none⟩ rfl [.int .i64 x0, .int .i64 x1, .int .i64 x2, .int .i64 x3, .int .i64 x4, .string x5, .string x6] kB _ Tryz.underlying47 rfl (by kernel_rfl) ?_; simp only [Act.put, List.setIfInBounds_toArray, List.set_cons_succ, List.set_cons_zero]) | (go_big_quiet_want; go_big_quiet_op; go_big_quiet_on))
   refine wpQuiet_nil ?_
   clear kA kB hne0
   refine headI_end (by kernel_rfl) HB3.out ?_
   simp only [List.take, List.drop]
   have hrn := rec_neq ⟨x0, x1, x2, x3, x4, x5, x6⟩
   have i16 : IntKind.i64.wrap ((k : Int) + 1) = (k : Int) + 1 := by have := HNL.out; rw [IntKind.wrap_i64]; omega
   go_wp2_with fail
   go_roundw
   case rel => exact ⟨k + 1, HLT.out, by go_num, HB3⟩
   case measure =>
    have h1 := HLT.out
    simp [intOf]
    omega
  ·have g1 : decide ((k : Int) < (n : Int)) = false := decide_eq_false (by omega)
   go_wp2_with fail
   go_ret
   exact ⟨rfl, HW.out⟩
end Go.Proofs.YtendlmdmbkcdnaaGreatDoor.tp
