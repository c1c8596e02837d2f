/-
  Texts of the proof joined by a program: Tpd Tpe Tpf.
-/
import Derived.Test.YtendlmdmbkcdnaaGreatDoorVu
set_option linter.unusedSimpArgs false
set_option linter.unusedVariables false
namespace Go.Proofs.YtendlmdmbkcdnaaGreatDoor.tp
open Go.RowKit Go.Maps Go.WideMaps oc rc gh dk sg ma hi kd dd
set_option maxRecDepth 100000
theorem crcN_app (x : Nat) (l k : List UInt8) : crcN x (l ++ k) = crcN (crcN x l) k := by simp [crcN]
theorem extN_app (s : Nat) (l k : List UInt8) : extN s (l ++ k) = extN (extN s l) k := by
 unfold extN
 rw [crcN_app]
 congr 1
 congr 1
 generalize crcN (4294967295 ^^^ s) l = y
 rw [<- Nat.xor_assoc, Nat.xor_self, Nat.zero_xor]
def addS (X : TS) (r : Rc) (D : DataW Unit) : TS := { X with wr := X.wr ++ [r], DA := D }
theorem segB_app (i n b : Nat) (l k : List Rc) : segB i n b (l ++ k) = segB i n b l ++ bodyR k := by simp [segB, bodyR_app]
theorem addS_seg (X : TS) (r : Rc) (D : DataW Unit) (h : r.off = (X.base : Int) + ((X.rs ++ X.wr).length : Nat)) : (addS X r D).seg = appS X.seg r.off (encR r) := by
 have e : (addS X r D).rs ++ (addS X r D).wr = (X.rs ++ X.wr) ++ [r] := by simp [addS]
 simp only [TS.seg, e, appS]
 have hb : (bodyR (X.rs ++ X.wr ++ [r])).length = (bodyR (X.rs ++ X.wr)).length + (encR r).length := by rw [bodyR_app, bodyR_one, List.length_append]
 have hl : (X.rs ++ X.wr ++ [r]).length = (X.rs ++ X.wr).length + 1 := by rw [List.length_append]; rfl
 have hx : extN 0 (segB X.i X.cur X.base (X.rs ++ X.wr ++ [r])) = extN (extN 0 (segB X.i X.cur X.base (X.rs ++ X.wr))) (encR r) := by rw [segB_app, bodyR_one, extN_app]
 have hx2 : extN 0 (segB (addS X r D).i (addS X r D).cur (addS X r D).base (X.rs ++ X.wr ++ [r])) = extN (extN 0 (segB X.i X.cur X.base (X.rs ++ X.wr))) (encR r) := hx
 rw [hb, hl, hx2]
 have h1 : (21 : Int) + (((bodyR (X.rs ++ X.wr)).length + (encR r).length : Nat) : Int) = (21 : Int) + ((bodyR (X.rs ++ X.wr)).length : Nat) + ((encR r).length : Nat) := by omega
 have h2 : (X.base : Int) - 1 + (((X.rs ++ X.wr).length + 1 : Nat) : Int) = r.off := by omega
 simp only [addS]
 rw [h1, h2]
def CA (τ : Nat) : Tag -> Role -> Prop := fun t r => CKS τ t r \/ (t = .other /\ (r = some (τ, .top) \/ r = some (τ, .waits) \/ r = some (τ, .all) \/ r = some (τ, .allm)))
theorem ca_s {τ : Nat} : ∀ t r, CKS τ t r -> CA τ t r := fun _ _ h => Or.inl h
theorem ca_ct {τ : Nat} : ∀ t r, CA τ t r -> CT τ t r := by
 rintro t r (h | ⟨h1, h2⟩)
 ·exact ct_s t r h
 ·refine Or.inr ⟨h1, ?_⟩
  rcases h2 with rfl | rfl | rfl | rfl <;> exact ⟨_, rfl⟩
theorem ca_no {τ : Nat} {pp : Part} (h : pp ≠ .top /\ pp ≠ .waits /\ pp ≠ .all /\ pp ≠ .allm /\ pp ≠ .seg /\ pp ≠ .places /\ pp ≠ .order) : ¬ CA τ .other (some (τ, pp)) := by
 obtain ⟨h1, h2, h3, h4, h5, h6, h7⟩ := h
 rintro (h | ⟨_, h⟩)
 ·exact cks_no h5 h6 h7 h
 ·simp [h1, h2, h3, h4] at h
theorem ca_none {τ : Nat} : ¬ CA τ .other none := by
 rintro (h | ⟨_, h⟩)
 ·exact cks_none h
 ·simp at h
theorem TopG.added {w w' : World} {G G' : Gh} {τ t d : Nat} {X : TS} {q : Int} {fs fs' : List Fil} {no L no' L' : Nat} {p : Pts} (h : TopV w G τ t d X q fs no L p) (r : Rc) (D : DataW Unit) (hF : Fx (CA τ) G G' w w') (hf : Fin G' w') {wA : Option Addr} {wc n' : Nat}
  (ho : r.off = (X.base : Int) + ((X.rs ++ X.wr).length : Nat)) (ht : BlkR w' G' t 110 (Tc.cells { p.c with wA := wA, wn := X.wr.length + 1, wc := wc }) (some (τ, .top))) (hs : SegAt w' G' τ p.g d (appS X.seg r.off (encR r)))
  (hw : RowR w' G' 135 8 (.slice wA (X.wr.length + 1) wc) (X.wr.length + 1) ((waitsAt X.wpos (X.wr ++ [r])).flatMap wtC) (some (τ, .waits))) (ha : TabR w' G' τ .all .allm p.c.ta p.am n' D) (hn : n' <= X.en + X.wr.length + 1) (hk : DK w' G' d q fs' no' L') :
  TopV w' G' τ t d (addS X r D) q fs' no' L' { p with c := { p.c with wA := wA, wn := X.wr.length + 1, wc := wc }, an := n' } :=
 { h with
  top := ht
  ewn := by show X.wr.length + 1 = (X.wr ++ [r]).length; simp
  segs := ints_keep h.segs h.cold hF ca_none
  cold := h.cold.keep hF
  seg := by rw [addS_seg X r D ho]; exact hs
  dir := h.dir.keep hF (ca_no (by simp)) ca_none
  tab := h.tab.keep hF (ca_no (by simp)) (ca_no (by simp))
  all := ha
  waits := hw
  cached := h.cached.keep hF (ca_no (by simp))
  rows := fun s l hs => (h.rows s l hs).keep hF (ca_no (by simp))
  dk := hk
  fin := hf
  tg := h.tg.keep hF ca_none
  an1 := by show n' <= X.en + (X.wr ++ [r]).length; simp; omega }
def SameC (X : TS) (q : Int) (fs : List Fil) (r : Rc) (off : Int) (ag : Bool) (er : Int) : Prop :=
 (er = checkN r /\ er ≠ 0) \/
 (er = 0 /\ ag = true /\ checkN r = 0 /\ 0 < r.pid /\ ∃ a, Knows X.DA r.pid true a r.seq off) \/
 ((er = 90 \/ er = 91 \/ er = 92) /\ checkN r = 0 /\ 0 < r.pid) \/
 (er = 33 /\ checkN r = 0 /\ q - (sumF fs : Nat) - ((encR r).length : Nat) < 4096)
def NotedD (D : DataW Unit) (r : Rc) (nx : Nat) (D' : DataW Unit) : Prop :=
 (r.pid = 0 /\ D' = D) \/ (0 < r.pid /\ goodP r.pid r.seq = true /\ ∃ known a s o, Knows D r.pid known a s o /\ 0 <= s /\ s < 1099511627776 /\ (judgeN known s o r.seq (Maps.size D)).1 = 1 /\ D' = D.put (key r.pid) (prodD r.pid r.seq nx))
def FullC (X : TS) (x : Fil) (l : List Fil) (no L : Nat) (r : Rc) (ck : Nat) (er : Int) (X2 : TS) (fs2 : List Fil) (no2 L2 : Nat) : Prop :=
 (er = 102 \/ er = 103) /\ checkN r = 0 /\ 64 <= X.man.segs.length /\ 0 < (X.rs ++ X.wr).length /\ X2 = commitS (clockS X ck) /\ fs2 = cmF (clockS X ck) x :: l /\ no <= no2 /\ no2 <= no + min 1 X.wr.length /\ L2 = L
def AddC (X : TS) (fs : List Fil) (x : Fil) (l : List Fil) (q : Int) (no L : Nat) (r : Rc) (ck : Nat) (X2 : TS) (fs2 : List Fil) (no2 L2 : Nat) : Prop :=
 checkN r = 0 /\ (4096 : Int) <= q - (sumF fs : Nat) - ((encR r).length : Nat) /\ ∃ Xm fsm nom Lm x2 l2 D, MidS X ck (encR r).length fs x l q no L Xm fsm nom Lm /\ (fsm.map (·.name)).Nodup /\ fsm.Perm (x2 :: l2) /\ x2.name = Sb (nameN Xm.i Xm.cur) /\
  NotedD X.DA r (X.en + X.wr.length) D /\ X2 = addS Xm r D /\ fs2 = ⟨x2.name, x2.blk, fApp x2.st (encR r)⟩ :: l2 /\ no2 = nom + 1 /\ L2 = Lm
def AppOut (w : World) (G : Gh) (τ t d : Nat) (X : TS) (q : Int) (fs : List Fil) (no L : Nat) (x : Fil) (l : List Fil) (r : Rc) (ck : Nat) (e : Ending) (w' : World) : Prop :=
 ∃ off ag er, e = .returned (.tuple #[.int .i64 off, .bool ag, .int .i64 er]) /\ (
  (TopAt w' G τ t d (clockS X ck) q fs no L /\ Fx (CT τ) G G w w' /\ SameC X q fs r off ag er) \/
  ∃ G' X2 fs2 no2 L2, TopAt w' G' τ t d X2 q fs2 no2 L2 /\ Fx (CT τ) G G' w w' /\ (FullC X x l no L r ck er X2 fs2 no2 L2 \/ (er = 0 /\ ag = false /\ off = ((X.en + X.wr.length : Nat) : Int) /\ AddC X fs x l q no L r ck X2 fs2 no2 L2)))
section
variable {w w' : World} {G G' : Gh} {τ t d : Nat} {X : TS} {q : Int} {fs : List Fil} {no L : Nat} {x : Fil} {l : List Fil} {r : Rc} {ck : Nat}
theorem AppOut.same {off : Int} {ag : Bool} {er : Int} (hT : TopAt w' G τ t d (clockS X ck) q fs no L) (hx : Fx (CT τ) G G w w') (h : SameC X q fs r off ag er) : AppOut w G τ t d X q fs no L x l r ck (.returned (.tuple #[.int .i64 off, .bool ag, .int .i64 er])) w' :=
 ⟨_, _, _, rfl, Or.inl ⟨hT, hx, h⟩⟩
theorem AppOut.full {off : Int} {ag : Bool} {er : Int} {X2 : TS} {fs2 : List Fil} {no2 L2 : Nat} (hT : TopAt w' G' τ t d X2 q fs2 no2 L2) (hx : Fx (CT τ) G G' w w') (h : FullC X x l no L r ck er X2 fs2 no2 L2) : AppOut w G τ t d X q fs no L x l r ck (.returned (.tuple #[.int .i64 off, .bool ag, .int .i64 er])) w' :=
 ⟨_, _, _, rfl, Or.inr ⟨_, _, _, _, _, hT, hx, Or.inl h⟩⟩
theorem AppOut.add {X2 : TS} {fs2 : List Fil} {no2 L2 : Nat} (hT : TopAt w' G' τ t d X2 q fs2 no2 L2) (hx : Fx (CT τ) G G' w w') (h : AddC X fs x l q no L r ck X2 fs2 no2 L2) : AppOut w G τ t d X q fs no L x l r ck (.returned (.tuple #[.int .i64 ((X.en + X.wr.length : Nat) : Int), .bool false, .int .i64 0])) w' :=
 ⟨_, _, _, rfl, Or.inr ⟨_, _, _, _, _, hT, hx, Or.inr ⟨rfl, rfl, rfl, h⟩⟩⟩
end
theorem judge_again {known : Bool} {s o seq size : Int} (h : (judgeN known s o seq size).1 = 2) : known = true /\ seq = s /\ (judgeN known s o seq size).2 = o := by
 unfold judgeN at *
 split at h
 ·rename_i hh
  rw [if_pos hh]
  exact ⟨hh.1, hh.2, rfl⟩
 ·split at h
  ·simp at h
  ·split at h
   ·simp at h
   ·split at h <;> simp at h
theorem refN_cases {v : Int} (h : refN v ≠ 0) : (refN v = 90 \/ refN v = 91 \/ refN v = 92) /\ v ≠ 0 := by
 unfold refN at *
 split at h
 ·rename_i e; rw [if_pos e]; subst e; exact ⟨by simp, by decide⟩
 ·rename_i e1
  split at h
  ·rename_i e; rw [if_neg e1, if_pos e]; subst e; exact ⟨by simp, by decide⟩
  ·rename_i e2
   split at h
   ·rename_i e; rw [if_neg e1, if_neg e2, if_pos e]; subst e; exact ⟨by simp, by decide⟩
   ·exact absurd rfl h
theorem refN_zero {v : Int} (h : refN v = 0) (h2 : v ≠ 2) (hv : v = 1 \/ v = 2 \/ v = 3 \/ v = 4 \/ v = 5) : v = 1 := by
 rcases hv with rfl | rfl | rfl | rfl | rfl
 ·rfl
 ·exact absurd rfl h2
 ·simp [refN] at h
 ·simp [refN] at h
 ·simp [refN] at h
theorem note_either (W : World) (t m n : Nat) (D : DataW Unit) (h : TabAt W t m n D) (r : Rc) (nx : Nat) (hn : n <= 1073741824) (hnx : nx <= 1073741824) (hne : t ≠ m)
  (H : (r.pid = 0 /\ r.seq = 0) \/ (0 < r.pid /\ goodP r.pid r.seq = true /\ ∃ known a s o, Knows D r.pid known a s o /\ 0 <= s /\ s < 1099511627776 /\ (judgeN known s o r.seq (Maps.size D)).1 = 1)) :
  Calls Tryz.prog 52 #[.pointer (some ⟨t, 0, none⟩), .int .i64 r.pid, .int .i64 r.seq, .int .i64 (nx : Int)] W fun e w' => e = .returned (.int .i64 0) /\ ∃ n' D' W1, TabAt w' t m n' D' /\ n' <= n + 1 /\ NotedD D r nx D' /\ Below W.heap.size W W1 /\ (w' = W1 \/ W1.grownBy w' (some m)) := by
 rcases H with ⟨h1, h2⟩ | ⟨h1, h2, known, a, s, o, h3, h4, h5, h6⟩
 ·rw [h1, h2]
  refine (note_free W t nx ⟨by omega, by omega⟩).mono ?_
  rintro e w' ⟨rfl, hb⟩
  exact ⟨rfl, n, D, w', h.below hb, by omega, Or.inl ⟨h1, rfl⟩, hb, Or.inl rfl⟩
 ·refine (note_fresh W t m n D h r.pid r.seq nx a s o known h2 h3 ⟨h4, h5⟩ h6 ⟨by omega, by omega⟩ hn hne).mono ?_
  rintro e w' ⟨rfl, ht, W1, hb, hg⟩
  exact ⟨rfl, n + 1, _, W1, ht, Nat.le_refl _, Or.inr ⟨h1, h2, known, a, s, o, h3, h4, h5, h6, rfl⟩, hb, Or.inr hg⟩
theorem mid_facts {X : TS} {fs : List Fil} {x : Fil} {l : List Fil} {q : Int} {no L ck rn : Nat} (HA : AppH X fs x l q no L) {X2 : TS} {fs2 : List Fil} {no2 L2 : Nat} (h : MidS X ck rn fs x l q no L X2 fs2 no2 L2) :
  X2.DA = X.DA /\ X2.en + X2.wr.length = X.en + X.wr.length /\ X2.base + (X2.rs ++ X2.wr).length = X.en + X.wr.length /\ X2.wr.length <= 65536 /\ (bodyR (X2.rs ++ X2.wr)).length <= 1000000000 := by
 have hb := HA.base
 have hw := HA.wl
 have hy := HA.body
 rcases h with ⟨rfl, -, -, -, -⟩ | ⟨ps, hs', f, f2, xm, l', B, -, -, -, rfl, -, -, -, -, -⟩
 ·refine ⟨rfl, rfl, ?_, hw, hy⟩
  show X.base + (X.rs ++ X.wr).length = _
  rw [List.length_append]
  omega
 ·exact ⟨rfl, rfl, rfl, by show (0 : Nat) <= _; omega, by show (0 : Nat) <= _; omega⟩
theorem infoWt : (Tryz.prog.info? 135).map (fun i => (i.zero, i.size, i.bytes)) = some (some (.agg #[.int .i64 0, .int .i64 0, .int .i64 0, .int .i64 0, .int .i64 0, .string ⟨#[]⟩, .string ⟨#[]⟩, .int .i64 0]), 8, 80) := by kernel_rfl
theorem Fx.maybe {r : Role} {G : Gh} {W w' : World} {m : Nat} (h : w' = W \/ W.grownBy w' (some m)) (hr : Is G m r) : Fx (CR r) G G W w' := by
 rcases h with rfl | h
 ·exact Fx.refl _ _ _
 ·exact Fx.grown h hr
def CV (τ : Nat) : Tag -> Role -> Prop := fun t r => t = .other /\ (r = some (τ, .top) \/ r = some (τ, .allm))
def CW (τ : Nat) : Tag -> Role -> Prop := fun t r => t = .other /\ (r = some (τ, .top) \/ r = some (τ, .waits) \/ r = some (τ, .allm))
theorem cv_r {τ : Nat} {p : Part} (hp : p = .top \/ p = .allm) : ∀ t r, CR (some (τ, p)) t r -> CV τ t r := by
 rintro t r ⟨h1, rfl⟩
 refine ⟨h1, ?_⟩
 rcases hp with rfl | rfl <;> simp
theorem cv_no {τ : Nat} {pp : Part} (h : pp ≠ .top /\ pp ≠ .allm) : ¬ CV τ .other (some (τ, pp)) := by
 rintro ⟨_, h2⟩
 simp [h.1, h.2] at h2
theorem cw_v {τ : Nat} : ∀ t r, CV τ t r -> CW τ t r := by
 rintro t r ⟨h1, h2⟩
 exact ⟨h1, by rcases h2 with h | h <;> simp [h]⟩
theorem cw_r {τ : Nat} : ∀ t r, CR (some (τ, .waits)) t r -> CW τ t r := by
 rintro t r ⟨h1, rfl⟩
 exact ⟨h1, by simp⟩
theorem cw_no {τ : Nat} {pp : Part} (h : pp ≠ .top /\ pp ≠ .waits /\ pp ≠ .allm) : ¬ CW τ .other (some (τ, pp)) := by
 rintro ⟨_, h2⟩
 simp [h.1, h.2.1, h.2.2] at h2
theorem cw_ca {τ : Nat} : ∀ t r, CW τ t r -> CA τ t r := by
 rintro t r ⟨h1, h2⟩
 exact Or.inr ⟨h1, by rcases h2 with h | h | h <;> simp [h]⟩
theorem waits_snoc (X : TS) (r : Rc) (pos : Int) (hp : X.seg.i.size = pos) : (waitsAt X.wpos (X.wr ++ [r])).flatMap wtC = (waitsAt X.wpos X.wr).flatMap wtC ++ [.int .i64 r.kind, .int .i64 r.off, .int .i64 r.time, .int .i64 r.pid, .int .i64 r.seq, .string r.key, .string r.val, .int .i64 pos] := by
 have h1 : ((X.wpos + (bodyR X.wr).length : Nat) : Int) = pos := by
  rw [<- hp]
  show _ = (21 : Int) + ((bodyR (X.rs ++ X.wr)).length : Nat)
  rw [bodyR_app, List.length_append]
  unfold TS.wpos
  omega
 rw [waits_app]
 simp only [waitsAt, List.flatMap_append, List.flatMap_cons, List.flatMap_nil, List.append_nil, wtC, h1]
def OfN (i : Nat) (s : ByteArray) : Prop := ∃ rest, s = Sb (fN (i : Int) rest)
theorem ofN_ne {i j : Nat} (hi : i < 1073741824) (hj : j < 1073741824) (h : i ≠ j) {s : ByteArray} (h1 : OfN i s) : ¬ OfN j s := by
 rintro ⟨r2, e2⟩
 obtain ⟨r1, e1⟩ := h1
 have h3 := (sbf_inj (okn hi) (okn hj) (e1.symm.trans e2)).1
 omega
theorem ofN_seg (i : Nat) (n : Int) : OfN i (Sb (nameN i n)) := ⟨segR n, by rw [nameN_f]⟩
theorem ofN_hint (i : Nat) (n : Int) : OfN i (Sb (hintN i n)) := ⟨hintR n, by rw [hintN_f]⟩
theorem ofN_man (i : Nat) : OfN i (Sb (manName i)) := ⟨manR, by rw [man_f]⟩
theorem ofN_tmp (i : Nat) : OfN i (Sb (tmpN (manName i))) := ⟨tmpR, by rw [tmp_f]⟩
def Calm (F : FileS) (b : List UInt8) : Prop := F.seen = b /\ F.safe = b /\ F.chs = []
theorem calm_new (b : List UInt8) : Calm (fNew b) b := by simp [Calm, fNew, fSync, fApp, appAll, appCh]
def tailB (i n b : Nat) (l : List Rc) : List UInt8 := tailN (extN 0 (segB i n b l)) l.length (u64of ((b : Int) - 1 + (l.length : Nat)))
def oldB (i : Nat) (o : Old) : List UInt8 := segB i o.num o.base o.recs ++ tailB i o.num o.base o.recs
structure CurF (X : TS) (F : FileS) : Prop where
 seen : F.seen = segB X.i X.cur X.base (X.rs ++ X.wr)
 safe : F.safe = segB X.i X.cur X.base X.rs
 chs : F.chs = X.wr.map fun r => .app (encR r)
theorem apps_recs : ∀ (l : List Rc) (b : List UInt8), appAll (l.map fun r => FChg.app (encR r)) b = b ++ bodyR l
 | [], b => by simp [appAll, bodyR]
 | r :: l, b => by
  have h := apps_recs l (b ++ encR r)
  simp only [appAll, List.map_cons, List.foldl_cons, appCh] at h ⊢
  rw [h]
  simp [bodyR]
def NumN (i cur : Nat) (s : ByteArray) : Prop := s = Sb (manName i) \/ (∃ n : Nat, 1 <= n /\ n <= cur /\ s = Sb (nameN i n)) \/ (∃ n : Nat, 1 <= n /\ n < cur /\ s = Sb (hintN i n))
section
variable {i cur : Nat}
theorem numN_seg (hi : i < 1073741824) (hc : cur + 1 < 1073741824) : ¬ NumN i cur (Sb (nameN i ((cur + 1 : Nat) : Int))) := by
 have hk := okn hi
 have hk1 := okn hc
 rintro (h | ⟨n, h1, h2, h⟩ | ⟨n, h1, h2, h⟩)
 ·rw [nameN_f, man_f] at h
  exact seg_man hk1 (sbf_inj hk hk h).2
 ·rw [nameN_f, nameN_f] at h
  have h3 := segR_inj hk1 (okn (by omega)) (sbf_inj hk hk h).2
  omega
 ·rw [nameN_f, hintN_f] at h
  exact seg_hint hk1 (okn (by omega)) (sbf_inj hk hk h).2
theorem numN_hint (hi : i < 1073741824) (hc : cur + 1 < 1073741824) : ¬ NumN i cur (Sb (hintN i (cur : Int))) := by
 have hk := okn hi
 have hk1 : Go.Proofs.YtendlmdmbkcdnaaGreatDoor.sg.okNum (cur : Int) = true := okn (by omega)
 rintro (h | ⟨n, h1, h2, h⟩ | ⟨n, h1, h2, h⟩)
 ·rw [hintN_f, man_f] at h
  exact hint_man hk1 (sbf_inj hk hk h).2
 ·rw [nameN_f, hintN_f] at h
  exact seg_hint (okn (by omega)) hk1 (sbf_inj hk hk h).2.symm
 ·rw [hintN_f, hintN_f] at h
  have h3 := hintR_inj hk1 (okn (by omega)) (sbf_inj hk hk h).2
  omega
theorem numN_tmp (hi : i < 1073741824) (hc : cur + 1 < 1073741824) : ¬ NumN i cur (Sb (tmpN (manName i))) := by
 have hk := okn hi
 rintro (h | ⟨n, h1, h2, h⟩ | ⟨n, h1, h2, h⟩)
 ·rw [tmp_f, man_f] at h
  exact man_tmp (sbf_inj hk hk h).2.symm
 ·rw [tmp_f, nameN_f] at h
  exact seg_tmp (okn (by omega)) (sbf_inj hk hk h).2.symm
 ·rw [tmp_f, hintN_f] at h
  exact hint_tmp (okn (by omega)) (sbf_inj hk hk h).2.symm
theorem NumN.more {cur' : Nat} {s : ByteArray} (h : NumN i cur s) (hc : cur <= cur') : NumN i cur' s := by
 rcases h with h | ⟨n, h1, h2, h⟩ | ⟨n, h1, h2, h⟩
 ·exact Or.inl h
 ·exact Or.inr (Or.inl ⟨n, h1, by omega, h⟩)
 ·exact Or.inr (Or.inr ⟨n, h1, by omega, h⟩)
end
theorem seg_ne {i a b : Nat} (hi : i < 1073741824) (ha : a < 1073741824) (hb : b < 1073741824) (h : a ≠ b) : Sb (nameN i a) ≠ Sb (nameN i b) := by
 rw [nameN_f, nameN_f]
 intro e
 have h3 := segR_inj (okn ha) (okn hb) (sbf_inj (okn hi) (okn hi) e).2
 omega
theorem man_ne {i a : Nat} (hi : i < 1073741824) (ha : a < 1073741824) : Sb (manName i) ≠ Sb (nameN i a) := by
 rw [nameN_f, man_f]
 intro e
 exact seg_man (okn ha) (sbf_inj (okn hi) (okn hi) e).2.symm
def treeOf (rows : List (Nat × List Rc)) : KT := rows.foldl (fun T x => noteAll x.1 T (placed 21 x.2)) .nil
structure Inv (X : TS) (fs : List Fil) : Prop where
 i : X.i < 1073741824
 lim0 : 256 <= X.lim
 lim1 : X.lim <= 65536
 clock : X.clock < 1125899906842624
 mark : X.man.mark = 0
 segs : X.man.segs = X.rows.map (·.1)
 nums : ∀ k o, X.old[k]? = some o -> o.num = k + 1
 cur : X.cur = X.old.length + 1
 len : X.old.length <= 63
 en : X.base + X.rs.length = X.en
 base : X.base <= 4700 * X.old.length
 size : (X.rs ++ X.wr).length <= 1 \/ 38 + (bodyR (X.rs ++ X.wr)).length <= X.lim
 olds : ∀ o ∈ X.old, 38 + (bodyR o.recs).length <= 65536
 good : ∀ r ∈ X.all ++ X.wr, checkN r = 0
 all : X.all.length = X.en
 offs : ∀ (k : Nat) r, (X.all ++ X.wr)[k]? = some r -> r.off = (k : Int)
 tree : X.T = treeOf X.rows
 tabA : TabOk X.DA (X.en + X.wr.length)
 tidyA : Tidy X.DA
 da : X.wr = [] -> X.DC = X.DA
 known : ∀ pid a s o, Knows X.DA pid true a s o -> ∃ (k : Nat) (r : Rc), (X.all ++ X.wr)[k]? = some r /\ o = (k : Int) /\ r.pid = pid /\ r.seq = s
 own : ∀ z ∈ fs, OfN X.i z.name -> NumN X.i X.cur z.name
 fcur : ∃ x ∈ fs, x.name = Sb (nameN X.i X.cur) /\ CurF X x.st
 fman : ∃ x ∈ fs, x.name = Sb (manName X.i) /\ Calm x.st (manN X.man)
 fold : ∀ o ∈ X.old, ∃ x ∈ fs, x.name = Sb (nameN X.i o.num) /\ Calm x.st (oldB X.i o)
section
variable {X : TS} {fs : List Fil} {x : Fil} {l : List Fil} {q : Int} {no L : Nat}
theorem Inv.clk (h : Inv X fs) {k : Nat} (hk : k < 1125899906842624) : Inv (clockS X k) fs := { h with clock := hk, fcur := (by obtain ⟨x, h1, h2, h3⟩ := h.fcur; exact ⟨x, h1, h2, ⟨h3.seen, h3.safe, h3.chs⟩⟩) }
theorem Inv.goodr (h : Inv X fs) : ∀ r ∈ X.rs ++ X.wr, checkN r = 0 := fun r hr => h.good r (by
 rcases List.mem_append.1 hr with hr | hr
 ·exact List.mem_append_left _ (List.mem_append_right _ hr)
 ·exact List.mem_append_right _ hr)
theorem body_le {l : List Rc} (hl : l.length <= 1) (hg : ∀ r ∈ l, checkN r = 0) : (bodyR l).length <= 1124 := by
 match l, hl with
 | [], _ => simp [bodyR]
 | [r], _ => rw [bodyR_one]; exact (encR_size (hg r (by simp))).2
theorem Inv.body (h : Inv X fs) : 38 + (bodyR (X.rs ++ X.wr)).length <= 65536 := by
 have h1 := h.lim1
 rcases h.size with hs | hs
 ·have := body_le hs h.goodr
  omega
 ·omega
theorem Inv.cnt (h : Inv X fs) : (X.rs ++ X.wr).length <= 4700 := by
 have h1 := h.body
 have h2 := bodyR_many h.goodr
 omega
theorem Inv.enb (h : Inv X fs) : X.en + X.wr.length = X.base + (X.rs ++ X.wr).length := by
 have h1 := h.en
 rw [List.length_append]
 omega
theorem Inv.en1 (h : Inv X fs) : X.en + X.wr.length <= 4700 * (X.old.length + 1) := by
 have h1 := h.enb
 have h2 := h.cnt
 have h3 := h.base
 omega
theorem Inv.en2 (h : Inv X fs) : X.en + X.wr.length <= 300800 := by
 have h1 := h.en1
 have h2 := h.len
 omega
theorem Inv.cur1 (h : Inv X fs) : X.cur <= 64 := by
 have h1 := h.cur
 have h2 := h.len
 omega
theorem Inv.num (h : Inv X fs) {o : Old} (ho : o ∈ X.old) : 1 <= o.num /\ o.num <= X.old.length := by
 obtain ⟨k, hk, e⟩ := List.getElem_of_mem ho
 have h1 := h.nums k o (by rw [List.getElem?_eq_getElem hk, e])
 omega
theorem Inv.rowr (h : Inv X fs) {y : Nat × List Rc} (hy : y ∈ X.rows) {r : Rc} (hr : r ∈ y.2) : checkN r = 0 := by
 refine h.good r (List.mem_append_left _ ?_)
 rw [<- rows_all]
 exact List.mem_flatMap.2 ⟨y, hy, hr⟩
theorem foldT_ok : ∀ (rows : List (Nat × List Rc)) (T : KT), T.short -> (∀ y ∈ rows, ∀ r ∈ y.2, r.key.size <= 64) ->
  (rows.foldl (fun T x => noteAll x.1 T (placed 21 x.2)) T).short /\ (rows.foldl (fun T x => noteAll x.1 T (placed 21 x.2)) T).count <= T.count + (rows.flatMap (·.2)).length
 | [], T, hT, _ => ⟨hT, by simp⟩
 | y :: rows, T, hT, hk => by
  have h1 := noteAll_ok (y.1 : Int) (placed 21 y.2) T hT (fun z hz => by
   have : z.r ∈ (placed 21 y.2).map (·.r) := List.mem_map.2 ⟨z, hz, rfl⟩
   rw [placed_r] at this
   exact hk y List.mem_cons_self _ this)
  have h2 := foldT_ok rows _ h1.1 (fun z hz => hk z (List.mem_cons_of_mem _ hz))
  refine ⟨h2.1, ?_⟩
  have h3 := h2.2
  have h4 := h1.2
  rw [placed_len] at h4
  simp only [List.foldl_cons, List.flatMap_cons, List.length_append]
  omega
theorem Inv.short (h : Inv X fs) : X.T.short /\ X.T.count <= X.en := by
 have h1 := foldT_ok X.rows .nil (by simp [KT.short]) (fun y hy r hr => (key_of_good (h.rowr hy hr)).2)
 rw [h.tree]
 refine ⟨h1.1, ?_⟩
 have h2 := h1.2
 rw [rows_all, h.all] at h2
 simpa [KT.count, treeOf] using h2
theorem Inv.woff (h : Inv X fs) (k : Nat) (r : Rc) (hr : X.wr[k]? = some r) : r.off = ((X.en + k : Nat) : Int) := by
 have h1 := h.offs (X.en + k) r (by rw [<- h.all, List.getElem?_append_right (by omega), Nat.add_sub_cancel_left]; exact hr)
 exact h1
theorem Inv.cmh (h : Inv X fs) (hp : fs.Perm (x :: l)) (hx : x.name = Sb (nameN X.i X.cur)) : CmH X fs x l := by
 have h1 := h.cnt
 have h2 := h.en2
 have h3 := h.cur1
 have h4 := h.body
 have h5 := h.cur
 rw [List.length_append] at h1
 exact ⟨h.woff, fun r hr => h.good r (List.mem_append_right _ hr), h.short.1, h.short.2, by omega, h.i, by omega, by omega, by omega, fun o ho => by have := h.num ho; omega, by
  unfold TS.wpos
  rw [bodyR_app, List.length_append] at h4
  omega, h.tabA.1, hp, hx, fun o ho => by have := h.num ho; have := h.len; omega⟩
theorem Inv.rowsOk (h : Inv X fs) : RowsOk X := by
 have h3 := h.cur1
 have h5 := h.cur
 refine ⟨h.segs, fun y hy => ?_, by simp [TS.rows]; have := h.len; omega⟩
 simp only [TS.rows, List.mem_append, List.mem_map, List.mem_singleton] at hy
 rcases hy with ⟨o, ho, rfl⟩ | rfl
 ·have h6 := h.num ho
  have h7 := h.olds o ho
  have h8 := bodyR_many (l := o.recs) (fun r hr => h.good r (List.mem_append_left _ (List.mem_append_left _ (List.mem_flatMap.2 ⟨o, ho, hr⟩))))
  exact ⟨by show o.num <= _; omega, by show o.recs.length <= _; omega⟩
 ·have h6 := h.cnt
  rw [List.length_append] at h6
  exact ⟨by show X.cur <= _; omega, by show X.rs.length <= _; omega⟩
theorem Inv.sth (h : Inv X fs) : StH X := by
 have h1 := h.cnt
 have h2 := h.en2
 rw [List.length_append] at h1
 exact ⟨h.rowsOk, h.short.1, h.woff, by omega, by omega, fun y hy r hr => (key_of_good (h.rowr hy hr)).2⟩
theorem mem_uniq {a b : Fil} : ∀ {fs : List Fil}, (fs.map (·.name)).Nodup -> a ∈ fs -> b ∈ fs -> a.name = b.name -> a = b
 | [], _, h, _, _ => by cases h
 | y :: fs, hn, ha, hb, e => by
  simp only [List.map_cons, List.nodup_cons, List.mem_map, not_exists, not_and] at hn
  rcases List.mem_cons.1 ha with h1 | h1 <;> rcases List.mem_cons.1 hb with h2 | h2
  ·rw [h1, h2]
  ·exact absurd (by rw [<- e, h1]) (hn.1 _ h2)
  ·exact absurd (by rw [e, h2]) (hn.1 _ h1)
  ·exact mem_uniq hn.2 h1 h2 e
theorem Inv.pick (h : Inv X fs) : ∃ x l, fs.Perm (x :: l) /\ x.name = Sb (nameN X.i X.cur) /\ CurF X x.st := by
 obtain ⟨x, hx, h1, h2⟩ := h.fcur
 obtain ⟨a, b, rfl⟩ := List.append_of_mem hx
 exact ⟨x, a ++ b, List.perm_middle, h1, h2⟩
theorem Inv.curf (h : Inv X fs) (hn : (fs.map (·.name)).Nodup) (hp : fs.Perm (x :: l)) (hx : x.name = Sb (nameN X.i X.cur)) : CurF X x.st := by
 obtain ⟨y, hy, h1, h2⟩ := h.fcur
 rw [mem_uniq hn (hp.mem_iff.2 List.mem_cons_self) hy (hx.trans h1.symm)]
 exact h2
theorem Inv.rollH (h : Inv X fs) (hp : fs.Perm (x :: l)) (hx : x.name = Sb (nameN X.i X.cur)) (hc : 0 < (X.rs ++ X.wr).length) (hs : X.man.segs.length <= 63) (hr : ((sumF (x :: l) : Nat) : Int) + 4096 <= q) (hno : no + 20 <= 1099511627776) (hL : L + 20 <= 1073741824) (hl : fs.length <= 60000) :
  ∃ xm l', RollH X x l xm l' q no L := by
 have h1 := h.cnt
 have h2 := h.en2
 have h3 := h.cur1
 have h4 := h.body
 have h5 := h.cur
 have hfl := hp.length_eq
 simp only [List.length_cons] at hfl
 have hnn : ∀ z ∈ x :: l, OfN X.i z.name -> NumN X.i X.cur z.name := fun z hz => h.own z (hp.mem_iff.2 hz)
 have hsl : X.man.segs.length = X.cur := by rw [h.segs]; simp [TS.rows]; omega
 obtain ⟨xm, hm, hm1, hm2⟩ := h.fman
 have hml : xm ∈ l := by
  rcases List.mem_cons.1 (hp.mem_iff.1 hm) with rfl | hm
  ·exact absurd (hm1.symm.trans hx) (man_ne h.i (by omega))
  ·exact hm
 obtain ⟨a, b, rfl⟩ := List.append_of_mem hml
 refine ⟨xm, a ++ b, ?_⟩
 constructor
 ·exact h.da
 ·exact hc
 ·exact hs
 ·exact List.perm_middle
 ·exact hm1
 ·exact h.lim0
 ·exact h.lim1
 ·exact h4
 ·exact h.tabA
 ·intro o ho
  have := h.num ho
  omega
 ·omega
 ·exact h.goodr
 ·intro z hz e
  exact numN_seg (cur := X.cur) h.i (by omega) (by rw [<- e]; exact hnn z hz (by rw [e]; exact ofN_seg _ _))
 ·intro z hz e
  exact numN_tmp (cur := X.cur) h.i (by omega) (by rw [<- e]; exact hnn z hz (by rw [e]; exact ofN_tmp _))
 ·intro z hz e
  exact numN_hint (cur := X.cur) h.i (by omega) (by rw [<- e]; exact hnn z hz (by rw [e]; exact ofN_hint _ _))
 ·exact hno
 ·exact hL
 ·omega
 ·exact hr
 ·intro ps hps hpl
  constructor
  ·exact h.i
  ·show 2 <= X.cur + 1 + 1
   omega
  ·show X.cur + 1 + 1 <= _
   omega
  ·show X.en + X.wr.length <= _
   omega
  ·show X.man.mark <= _
   rw [h.mark]
   omega
  ·exact h.clock
  ·show 1 <= (X.man.segs ++ [X.cur + 1]).length
   simp
  ·show (X.man.segs ++ [X.cur + 1]).length <= 64
   simp
   omega
  ·intro s hs'
   have hs2 : s ∈ X.man.segs ++ [X.cur + 1] := hs'
   rw [h.segs] at hs2
   simp only [TS.rows, List.map_append, List.map_map, List.mem_append, List.mem_map, List.map_cons, List.map_nil, List.mem_singleton, Function.comp] at hs2
   show 1 <= s /\ s < X.cur + 1 + 1
   rcases hs2 with (⟨o, ho, rfl⟩ | rfl) | rfl
   ·have := h.num ho
    omega
   ·omega
   ·omega
  ·show (X.man.segs ++ [X.cur + 1]).Nodup
   have e : X.man.segs ++ [X.cur + 1] = (List.range (X.cur + 1)).map (· + 1) := by
    refine List.ext_getElem? fun k => ?_
    rw [h.segs]
    simp only [TS.rows, List.map_append, List.map_map, List.map_cons, List.map_nil]
    rcases Nat.lt_or_ge k X.old.length with hk | hk
    ·rw [List.getElem?_append_left (by simp; omega), List.getElem?_append_left (by simpa using hk), List.getElem?_map, List.getElem?_map, List.getElem?_range (by omega), List.getElem?_eq_getElem hk]
     simp only [Option.map_some, Function.comp, Option.some.injEq]
     exact h.nums k _ (List.getElem?_eq_getElem hk)
    ·rcases Nat.lt_or_ge k (X.old.length + 2) with hk2 | hk2
     ·rcases (by omega : k = X.old.length \/ k = X.old.length + 1) with rfl | rfl
      ·rw [List.getElem?_append_left (by simp), List.getElem?_append_right (by simp), List.getElem?_map, List.getElem?_range (by omega)]
       simp [h5]
      ·rw [List.getElem?_append_right (by simp), List.getElem?_map, List.getElem?_range (by omega)]
       simp [h5]
     ·rw [List.getElem?_eq_none (by simp; omega), List.getElem?_eq_none (by simp; omega)]
   rw [e]
   exact List.Pairwise.map _ (fun a b hab => by omega) List.nodup_range
  ·exact hpl
  ·exact hps.rise
  ·exact hps.each
 ·intro ps hps hpl
  have e : (manN (rollM X ps)).length = 9 + (uvs (manNums (rollM X ps))).length := wrapL_length _ _
  have e2 := uvs_len (manNums (rollM X ps))
  have e3 : (manNums (rollM X ps)).length = 7 + (X.man.segs.length + 1) + 3 * ps.length := by
   simp only [manNums, ManS.heads, List.length_append, List.length_cons, List.length_nil, prs_len]
   show 0 + 1 + 1 + 1 + 1 + 1 + 1 + (X.man.segs ++ [X.cur + 1]).length + (0 + 1) + 3 * ps.length = _
   simp
   omega
  omega
end
theorem mem_tail {fs l : List Fil} {x y : Fil} (hp : fs.Perm (x :: l)) (hy : y ∈ fs) (hn : y.name ≠ x.name) : y ∈ l := by
 rcases List.mem_cons.1 (hp.mem_iff.1 hy) with rfl | h
 ·exact absurd rfl hn
 ·exact h
theorem noteAll_app (seg : Int) (T : KT) (a b : List Pl) : noteAll seg T (a ++ b) = noteAll seg (noteAll seg T a) b := by simp [noteAll]
theorem treeOf_snoc (R : List (Nat × List Rc)) (n : Nat) (l : List Rc) : treeOf (R ++ [(n, l)]) = noteAll n (treeOf R) (placed 21 l) := by simp [treeOf]
theorem commit_all (X : TS) : (commitS X).all ++ (commitS X).wr = X.all ++ X.wr := by simp [TS.all, commitS]
theorem commit_tree {X : TS} (h : X.T = treeOf X.rows) : (commitS X).T = treeOf (commitS X).rows := by
 have e1 : (commitS X).rows = X.old.map (fun o => (o.num, o.recs)) ++ [(X.cur, X.rs ++ X.wr)] := rfl
 have e2 : X.rows = X.old.map (fun o => (o.num, o.recs)) ++ [(X.cur, X.rs)] := rfl
 rw [e2, treeOf_snoc] at h
 rw [e1, treeOf_snoc, placed_app, noteAll_app, <- h]
 rfl
section
variable {X : TS} {fs : List Fil} {x : Fil} {l : List Fil} {q : Int} {no L : Nat}
theorem cur_commit (hf : CurF X x.st) : CurF (commitS X) (cmF X x).st := by
 by_cases hw : X.wr = []
 ·rw [cmF_nil hw]
  refine ⟨?_, ?_, ?_⟩
  ·rw [hf.seen]; simp [commitS]
  ·rw [hf.safe]; simp [commitS, hw]
  ·rw [hf.chs]; simp [commitS, hw]
 ·rw [cmF_some hw]
  refine ⟨?_, ?_, rfl⟩
  ·show x.st.seen = _
   rw [hf.seen]; simp [commitS]
  ·show appAll x.st.chs x.st.safe = _
   rw [hf.safe, hf.chs, apps_recs, <- segB_app]
   rfl
theorem cmF_name (X : TS) (x : Fil) : (cmF X x).name = x.name := rfl
theorem Inv.commit (h : Inv X fs) (hp : fs.Perm (x :: l)) (hx : x.name = Sb (nameN X.i X.cur)) (hf : CurF X x.st) : Inv (commitS X) (cmF X x :: l) := by
 have h3 := h.cur1
 have h5 := h.cur
 have hlen : (X.all ++ X.wr).length = X.en + X.wr.length := by rw [List.length_append, h.all]
 constructor
 ·exact h.i
 ·exact h.lim0
 ·exact h.lim1
 ·exact h.clock
 ·exact h.mark
 ·show X.man.segs = _
  rw [h.segs]
  simp [TS.rows, commitS]
 ·exact h.nums
 ·exact h.cur
 ·exact h.len
 ·show X.base + (X.rs ++ X.wr).length = X.en + X.wr.length
  exact h.enb.symm
 ·exact h.base
 ·have h6 := h.size
  simpa [commitS] using h6
 ·exact h.olds
 ·rw [commit_all]
  exact h.good
 ·have e := congrArg List.length (commit_all X)
  rw [hlen] at e
  simpa [commitS] using e
 ·rw [commit_all]
  exact h.offs
 ·exact commit_tree h.tree
 ·exact h.tabA
 ·exact h.tidyA
 ·exact fun _ => rfl
 ·rw [commit_all]
  exact h.known
 ·intro z hz hn
  rcases List.mem_cons.1 hz with rfl | hz
  ·rw [cmF_name] at hn ⊢
   exact h.own x (hp.mem_iff.2 List.mem_cons_self) hn
  ·exact h.own z (hp.mem_iff.2 (List.mem_cons_of_mem _ hz)) hn
 ·exact ⟨_, List.mem_cons_self, hx, cur_commit hf⟩
 ·obtain ⟨y, hy, h1, h2⟩ := h.fman
  exact ⟨y, List.mem_cons_of_mem _ (mem_tail hp hy (by rw [h1, hx]; exact man_ne h.i (by omega))), h1, h2⟩
 ·intro o ho
  obtain ⟨y, hy, h1, h2⟩ := h.fold o ho
  have hn := h.num ho
  exact ⟨y, List.mem_cons_of_mem _ (mem_tail hp hy (by rw [h1, hx]; exact seg_ne h.i (by omega) (by omega) (by omega))), h1, h2⟩
theorem judge_fresh {known : Bool} {s o seq size : Int} (h : (judgeN known s o seq size).1 = 1) : seq = s + 1 /\ (known = true \/ size < 64) := by
 unfold judgeN at h
 split at h
 ·simp at h
 ·split at h
  ·simp at h
  ·split at h
   ·simp at h
   ·split at h
    ·simp at h
    ·rename_i h3 h4
     refine ⟨by omega, ?_⟩
     cases known
     ·exact Or.inr (by simp at h4; omega)
     ·exact Or.inl rfl
theorem prodD_inj {a b c a' b' c' : Int} (h : prodD a b c = prodD a' b' c') : a = a' /\ b = b' /\ c = c' := by
 simpa [prodD] using h
theorem tabOk_more {D : DataW Unit} {n n' : Nat} (h : TabOk D n) (hn : n <= n') : TabOk D n' := ⟨h.1, fun x hx => by
 obtain ⟨s, o, h1, h2, h3, h4, h5, h6⟩ := h.2 x hx
 exact ⟨s, o, h1, h2, h3, h4, h5, by omega⟩⟩
theorem key_lit (n : Int) : WideAt.IsKeyLit (Go.Proofs.YtendlmdmbkcdnaaGreatDoor.dd.key n) := trivial
theorem noted_ok {D D' : DataW Unit} {r : Rc} {nx : Nat} (H : TabOk D nx) (hT : Tidy D) (h : NotedD D r nx D') : TabOk D' (nx + 1) /\ Tidy D' := by
 rcases h with ⟨_, rfl⟩ | ⟨h0, hg, known, a, s, o, hk, hs0, hs1, hj, rfl⟩
 ·exact ⟨tabOk_more H (by omega), hT⟩
 ·obtain ⟨hj1, hj2⟩ := judge_fresh hj
  refine ⟨⟨?_, fun x hx => ?_⟩, hT.put (key_lit _) _⟩
  ·rw [size_put hT]
   have h1 := H.1
   rw [hk.2]
   rcases hj2 with rfl | hj2
   ·simpa using h1
   ·split
    ·exact h1
    ·exact (by omega : Maps.size D + 1 <= 64)
  ·by_cases e : x = r.pid
   ·subst e
    simp only [goodP, Bool.and_eq_true, decide_eq_true_eq] at hg
    refine ⟨r.seq.toNat, nx, ?_, by omega, by omega, by omega, by omega, by omega⟩
    rw [show ((r.seq.toNat : Nat) : Int) = r.seq by omega]
    exact atKey_put_same hT.isMap (key_lit _) _ _
   ·have hne : key x ≠ key r.pid := by
     intro e2
     injection e2 with _ e2
     exact e e2
    have hx2 : Maps.has D (.int .i64 x) = true := by
     have := hx
     rw [show (Lit.int .i64 x) = key x from rfl, has_put_other hne] at this
     exact this
    obtain ⟨s', o', h1, h2, h3, h4, h5, h6⟩ := H.2 x hx2
    exact ⟨s', o', (atKey_put_other hne _ _).trans h1, h2, h3, h4, h5, by omega⟩
theorem Inv.add (h : Inv X fs) (hp : fs.Perm (x :: l)) (hx : x.name = Sb (nameN X.i X.cur)) (hf : CurF X x.st) {r : Rc} {D : DataW Unit} (hg : checkN r = 0) (hoff : r.off = ((X.en + X.wr.length : Nat) : Int))
  (hs : (X.rs ++ X.wr).length = 0 \/ 21 + (bodyR (X.rs ++ X.wr)).length + (encR r).length + 17 <= X.lim) (hD : NotedD X.DA r (X.en + X.wr.length) D) : Inv (addS X r D) (⟨x.name, x.blk, fApp x.st (encR r)⟩ :: l) := by
 have h3 := h.cur1
 have h5 := h.cur
 have hlen : (X.all ++ X.wr).length = X.en + X.wr.length := by rw [List.length_append, h.all]
 have hall : (addS X r D).all ++ (addS X r D).wr = (X.all ++ X.wr) ++ [r] := by simp [TS.all, addS]
 have hrw : (addS X r D).rs ++ (addS X r D).wr = (X.rs ++ X.wr) ++ [r] := by simp [addS]
 have hwl : (addS X r D).en + (addS X r D).wr.length = X.en + X.wr.length + 1 := by simp [addS]; omega
 obtain ⟨ht1, ht2⟩ := noted_ok h.tabA h.tidyA hD
 constructor
 ·exact h.i
 ·exact h.lim0
 ·exact h.lim1
 ·exact h.clock
 ·exact h.mark
 ·exact h.segs
 ·exact h.nums
 ·exact h.cur
 ·exact h.len
 ·exact h.en
 ·exact h.base
 ·rw [hrw, bodyR_app, bodyR_one]
  simp only [List.length_append, List.length_cons, List.length_nil] at hs ⊢
  rcases hs with hs | hs
  ·exact Or.inl (by omega)
  ·exact Or.inr (by show _ <= X.lim; omega)
 ·exact h.olds
 ·rw [hall]
  intro r' hr'
  rcases List.mem_append.1 hr' with hr' | hr'
  ·exact h.good r' hr'
  ·rw [List.mem_singleton] at hr'
   subst hr'
   exact hg
 ·exact h.all
 ·rw [hall]
  intro k r' hr'
  rcases Nat.lt_or_ge k (X.all ++ X.wr).length with hk | hk
  ·rw [List.getElem?_append_left hk] at hr'
   exact h.offs k r' hr'
  ·rw [List.getElem?_append_right hk] at hr'
   have hk2 : k - (X.all ++ X.wr).length = 0 := by
    rcases hz : k - (X.all ++ X.wr).length with _ | m
    ·rfl
    ·rw [hz] at hr'
     simp at hr'
   rw [hk2] at hr'
   simp only [List.getElem?_cons_zero, Option.some.injEq] at hr'
   subst hr'
   rw [hoff, <- hlen]
   omega
 ·exact h.tree
 ·rw [hwl]
  exact ht1
 ·exact ht2
 ·intro e
  simp [addS] at e
 ·rw [hall]
  intro pid a s o hk
  have old : ∀ {s' o' a'}, Knows X.DA pid true a' s' o' -> ∃ (k : Nat) (r' : Rc), (X.all ++ X.wr ++ [r])[k]? = some r' /\ o' = (k : Int) /\ r'.pid = pid /\ r'.seq = s' := by
   intro s' o' a' hk'
   obtain ⟨k, r', h1, h2, h3, h4⟩ := h.known pid a' s' o' hk'
   have hlt : k < (X.all ++ X.wr).length := by
    rcases Nat.lt_or_ge k (X.all ++ X.wr).length with hlt | hge
    ·exact hlt
    ·rw [List.getElem?_eq_none hge] at h1
     cases h1
   exact ⟨k, r', by rw [List.getElem?_append_left hlt]; exact h1, h2, h3, h4⟩
  rcases hD with ⟨_, rfl⟩ | ⟨h0, hg', known, a', s', o', hk', hs0, hs1, hj, rfl⟩
  ·exact old hk
  ·by_cases e : pid = r.pid
   ·subst e
    have h1 := hk.1
    rw [show (addS X r (X.DA.put (key r.pid) (prodD r.pid r.seq ((X.en + X.wr.length : Nat) : Int)))).DA = X.DA.put (key r.pid) (prodD r.pid r.seq ((X.en + X.wr.length : Nat) : Int)) from rfl, atKey_put_same h.tidyA.isMap (key_lit _)] at h1
    obtain ⟨-, e2, e3⟩ := prodD_inj h1
    exact ⟨(X.all ++ X.wr).length, r, by rw [List.getElem?_append_right (Nat.le_refl _)]; simp, by rw [<- e3, hlen], rfl, e2⟩
   ·have hne : key pid ≠ key r.pid := by
     intro e2
     injection e2 with _ e2
     exact e e2
    refine old (a' := a) (s' := s) (o' := o) ⟨?_, ?_⟩
    ·have h1 := hk.1
     rw [show (addS X r (X.DA.put (key r.pid) (prodD r.pid r.seq ((X.en + X.wr.length : Nat) : Int)))).DA = X.DA.put (key r.pid) (prodD r.pid r.seq ((X.en + X.wr.length : Nat) : Int)) from rfl, atKey_put_other hne] at h1
     exact h1
    ·have h1 := hk.2
     rw [show (addS X r (X.DA.put (key r.pid) (prodD r.pid r.seq ((X.en + X.wr.length : Nat) : Int)))).DA = X.DA.put (key r.pid) (prodD r.pid r.seq ((X.en + X.wr.length : Nat) : Int)) from rfl, has_put_other hne] at h1
     exact h1
 ·intro z hz hn
  rcases List.mem_cons.1 hz with rfl | hz
  ·exact h.own x (hp.mem_iff.2 List.mem_cons_self) hn
  ·exact h.own z (hp.mem_iff.2 (List.mem_cons_of_mem _ hz)) hn
 ·refine ⟨_, List.mem_cons_self, hx, ?_, ?_, ?_⟩
  ·rw [hrw, segB_app, bodyR_one]
   show x.st.seen ++ encR r = _
   rw [hf.seen]
   rfl
  ·exact hf.safe
  ·show x.st.chs ++ [.app (encR r)] = _
   rw [hf.chs]
   simp [addS]
 ·obtain ⟨y, hy, h1, h2⟩ := h.fman
  exact ⟨y, List.mem_cons_of_mem _ (mem_tail hp hy (by rw [h1, hx]; exact man_ne h.i (by omega))), h1, h2⟩
 ·intro o ho
  obtain ⟨y, hy, h1, h2⟩ := h.fold o ho
  have hn := h.num ho
  exact ⟨y, List.mem_cons_of_mem _ (mem_tail hp hy (by rw [h1, hx]; exact seg_ne h.i (by omega) (by omega) (by omega))), h1, h2⟩
theorem roll_all (X : TS) (ps : List PrS) : (rollS X ps).all ++ (rollS X ps).wr = X.all ++ X.wr := by simp [TS.all, rollS]
theorem Inv.roll (h : Inv X fs) (hp : fs.Perm (x :: l)) (hx : x.name = Sb (nameN X.i X.cur)) (hf : CurF X x.st) {xm : Fil} {l' : List Fil} (hR : RollH X x l xm l' q no L) {ps : List PrS} {hs : List Fil} {B f f2 : Nat} (hhs : HsOk X B hs) :
  Inv (rollS X ps) (⟨Sb (manName X.i), f2, fNew (manN (rollM X ps))⟩ :: ⟨Sb (nameN X.i ((X.cur + 1 : Nat) : Int)), f, fSync (fApp ⟨[], [], []⟩ (headN X.i (X.cur + 1) (X.en + X.wr.length)))⟩ :: (hs ++ sealF X x :: l')) := by
 have h3 := h.cur1
 have h5 := h.cur
 have hsl : X.man.segs.length = X.cur := by rw [h.segs]; simp [TS.rows]; omega
 have hs63 := hR.segs
 have hrows : (rollS X ps).rows = (commitS X).rows ++ [(X.cur + 1, [])] := rollS_rows X ps
 have hback : ∀ y ∈ l', y ∈ fs := fun y hy => hp.mem_iff.2 (List.mem_cons_of_mem _ (hR.perm.mem_iff.2 (List.mem_cons_of_mem _ hy)))
 have hkeep : ∀ y ∈ fs, y.name ≠ x.name -> y.name ≠ Sb (manName X.i) -> y ∈ l' := fun y hy h1 h2 => mem_tail hR.perm (mem_tail hp hy h1) (by rw [hR.mnm]; exact h2)
 constructor
 ·exact h.i
 ·exact h.lim0
 ·exact h.lim1
 ·exact h.clock
 ·exact h.mark
 ·show X.man.segs ++ [X.cur + 1] = _
  rw [h.segs]
  simp [TS.rows, rollS]
 ·intro k o ho
  have ho2 : (X.old ++ [⟨X.cur, X.base, X.rs ++ X.wr⟩] : List Old)[k]? = some o := ho
  rcases Nat.lt_or_ge k X.old.length with hk | hk
  ·rw [List.getElem?_append_left hk] at ho2
   exact h.nums k o ho2
  ·rw [List.getElem?_append_right hk] at ho2
   have hk2 : k - X.old.length = 0 := by
    rcases hz : k - X.old.length with _ | m
    ·rfl
    ·rw [hz] at ho2
     simp at ho2
   rw [hk2] at ho2
   simp only [List.getElem?_cons_zero, Option.some.injEq] at ho2
   subst ho2
   show X.cur = k + 1
   omega
 ·show X.cur + 1 = (X.old ++ [_]).length + 1
  simp
  omega
 ·show (X.old ++ [_]).length <= 63
  simp
  omega
 ·show X.en + X.wr.length + 0 = X.en + X.wr.length
  rfl
 ·show X.en + X.wr.length <= 4700 * (X.old ++ [_]).length
  have := h.en1
  simp
  omega
 ·exact Or.inl (by show (0 : Nat) <= 1; omega)
 ·intro o ho
  have ho2 : o ∈ X.old ++ [⟨X.cur, X.base, X.rs ++ X.wr⟩] := ho
  rcases List.mem_append.1 ho2 with ho2 | ho2
  ·exact h.olds o ho2
  ·rw [List.mem_singleton] at ho2
   subst ho2
   exact h.body
 ·rw [roll_all]
  exact h.good
 ·have e := congrArg List.length (roll_all X ps)
  rw [List.length_append, List.length_append, h.all] at e
  exact e
 ·rw [roll_all]
  exact h.offs
 ·rw [hrows, treeOf_snoc, <- commit_tree h.tree]
  rfl
 ·exact h.tabA
 ·exact h.tidyA
 ·exact fun _ => rfl
 ·rw [roll_all]
  exact h.known
 ·intro z hz hn
  show NumN X.i (X.cur + 1) z.name
  have hn2 : OfN X.i z.name := hn
  simp only [List.mem_cons, List.mem_append] at hz
  rcases hz with rfl | rfl | hz | rfl | hz
  ·exact Or.inl rfl
  ·exact Or.inr (Or.inl ⟨X.cur + 1, by omega, Nat.le_refl _, rfl⟩)
  ·rcases hhs with rfl | ⟨es, g, _, rfl, _⟩
   ·cases hz
   ·rw [List.mem_singleton] at hz
    subst hz
    exact Or.inr (Or.inr ⟨X.cur, by omega, by omega, rfl⟩)
  ·exact Or.inr (Or.inl ⟨X.cur, by omega, by omega, hx⟩)
  ·exact (h.own z (hback z hz) hn2).more (by omega)
 ·refine ⟨_, List.mem_cons_of_mem _ List.mem_cons_self, rfl, ?_, ?_, rfl⟩
  ·simp [fSync, fApp, rollS, segB, bodyR]
  ·simp [fSync, fApp, rollS, segB, bodyR, appAll, appCh]
 ·exact ⟨_, List.mem_cons_self, rfl, calm_new _⟩
 ·intro o ho
  have ho2 : o ∈ X.old ++ [⟨X.cur, X.base, X.rs ++ X.wr⟩] := ho
  rcases List.mem_append.1 ho2 with ho2 | ho2
  ·obtain ⟨y, hy, h1, h2⟩ := h.fold o ho2
   have hn := h.num ho2
   refine ⟨y, ?_, h1, h2⟩
   refine List.mem_cons_of_mem _ (List.mem_cons_of_mem _ (List.mem_append_right _ (List.mem_cons_of_mem _ (hkeep y hy ?_ ?_))))
   ·rw [h1, hx]
    exact seg_ne h.i (by omega) (by omega) (by omega)
   ·rw [h1]
    exact (man_ne h.i (by omega)).symm
  ·rw [List.mem_singleton] at ho2
   subst ho2
   refine ⟨sealF X x, List.mem_cons_of_mem _ (List.mem_cons_of_mem _ (List.mem_append_right _ List.mem_cons_self)), hx, ?_⟩
   have hc := cur_commit hf
   have e1 : (cmF X x).st.seen = segB X.i X.cur X.base (X.rs ++ X.wr) := by rw [hc.seen]; simp [commitS]
   have e2 : (cmF X x).st.safe = segB X.i X.cur X.base (X.rs ++ X.wr) := hc.safe
   have e3 : (cmF X x).st.chs = [] := hc.chs
   refine ⟨?_, ?_, rfl⟩
   ·show (cmF X x).st.seen ++ _ = _
    rw [e1]
    rfl
   ·show appAll ((cmF X x).st.chs ++ [_]) (cmF X x).st.safe = _
    rw [e3, e2]
    rfl
def cost (X : TS) : Nat := 2 * X.en + X.wr.length + 20 * X.cur
theorem Inv.addC (h : Inv X fs) (hn : (fs.map (·.name)).Nodup) (hp : fs.Perm (x :: l)) (hx : x.name = Sb (nameN X.i X.cur)) {r : Rc} {ck : Nat} (hck : ck < 1125899906842624) {X2 : TS} {fs2 : List Fil} {no2 L2 : Nat} (hr : r.off = ((X.en + X.wr.length : Nat) : Int)) (hc : AddC X fs x l q no L r ck X2 fs2 no2 L2) :
  Inv X2 fs2 /\ X2.all ++ X2.wr = X.all ++ X.wr ++ [r] /\ X2.clock = ck /\ X2.i = X.i /\ no2 + cost X <= no + cost X2 /\ L2 + 8 * X.cur <= L + 8 * X2.cur /\ fs2.length + 2 * X.cur <= fs.length + 2 * X2.cur /\ X.cur <= X2.cur /\
   (∀ z ∈ fs2, ¬ OfN X.i z.name -> z ∈ fs) /\ (∀ z ∈ fs, ¬ OfN X.i z.name -> z ∈ fs2) := by
 obtain ⟨hg, _, Xm, fsm, nom, Lm, x2, l2, D, hM, hnm, hp2, hx2, hD, rfl, rfl, rfl, rfl⟩ := hc
 have hoc : OfN X.i x.name := by rw [hx]; exact ofN_seg _ _
 rcases hM with ⟨rfl, rfl, rfl, rfl, hr4⟩ | ⟨ps, hs', f, f2, xm, l', B, hps, hpl, hhs, rfl, rfl, hR, hno, hL, hsum⟩
 ·have hi := h.clk hck
  have hfc := hi.curf hnm hp2 hx2
  have ho2 : OfN X.i x2.name := by rw [hx2]; exact ofN_seg _ _
  refine ⟨hi.add hp2 hx2 hfc hg hr hr4 hD, by simp [TS.all, addS, clockS], rfl, rfl, ?_, ?_, ?_, Nat.le_refl _, ?_, ?_⟩
  ·simp [cost, addS, clockS]
   omega
  ·exact Nat.le_refl _
  ·have := hp2.length_eq
   simp only [List.length_cons] at this ⊢
   rw [this]
   exact Nat.le_refl _
  ·intro z hz hz2
   rcases List.mem_cons.1 hz with rfl | hz
   ·exact absurd ho2 hz2
   ·exact hp2.mem_iff.2 (List.mem_cons_of_mem _ hz)
  ·intro z hz hz2
   exact List.mem_cons_of_mem _ (mem_tail hp2 hz (fun e => hz2 (by rw [e]; exact ho2)))
 ·have hi := h.clk hck
  have hf := hi.curf hn hp hx
  have hI := hi.roll hp hx hf hR (ps := ps) (f := f) (f2 := f2) hhs
  have hfc := hI.curf hnm hp2 hx2
  have ho2 : OfN X.i x2.name := by rw [hx2]; exact ofN_seg _ _
  refine ⟨hI.add hp2 hx2 hfc hg hr (Or.inl rfl) hD, ?_, rfl, rfl, ?_, ?_, ?_, ?_, ?_, ?_⟩
  ·have e := roll_all (clockS X ck) ps
   show (rollS (clockS X ck) ps).all ++ ((rollS (clockS X ck) ps).wr ++ [r]) = _
   rw [<- List.append_assoc, e]
   rfl
  ·simp only [cost, addS, clockS, rollS, List.length_append, List.length_cons, List.length_nil]
   omega
  ·show _ + 8 * X.cur <= L + 8 * (X.cur + 1)
   omega
  ·have e1 := hp2.length_eq
   have e2 := hp.length_eq
   have e3 := hR.perm.length_eq
   have e4 : hs'.length <= 1 := by
    rcases hhs with rfl | ⟨es, g, _, rfl, _⟩
    ·simp
    ·simp
   simp only [List.length_cons, List.length_append] at e1 e2 e3 ⊢
   show l2.length + 1 + 2 * X.cur <= fs.length + 2 * (X.cur + 1)
   omega
  ·show X.cur <= X.cur + 1
   omega
  ·intro z hz hz2
   rcases List.mem_cons.1 hz with rfl | hz
   ·exact absurd ho2 hz2
   ·have hz3 := hp2.mem_iff.2 (List.mem_cons_of_mem x2 hz)
    simp only [List.mem_cons, List.mem_append] at hz3
    rcases hz3 with rfl | rfl | hz3 | rfl | hz3
    ·exact absurd (ofN_man _) hz2
    ·exact absurd (ofN_seg _ _) hz2
    ·rcases hhs with rfl | ⟨es, g, _, rfl, _⟩
     ·cases hz3
     ·rw [List.mem_singleton] at hz3
      subst hz3
      exact absurd (ofN_hint _ _) hz2
    ·exact absurd hoc hz2
    ·exact hp.mem_iff.2 (List.mem_cons_of_mem _ (hR.perm.mem_iff.2 (List.mem_cons_of_mem _ hz3)))
  ·intro z hz hz2
   have h1 : z ∈ l' := mem_tail hR.perm (mem_tail hp hz (fun e => hz2 (by rw [e]; exact hoc))) (fun e => hz2 (by rw [e, hR.mnm]; exact ofN_man _))
   refine List.mem_cons_of_mem _ (mem_tail hp2 ?_ (fun e => hz2 (by rw [e]; exact ho2)))
   exact List.mem_cons_of_mem _ (List.mem_cons_of_mem _ (List.mem_append_right _ (List.mem_cons_of_mem _ h1)))
theorem Inv.appH (h : Inv X fs) (hp : fs.Perm (x :: l)) (hx : x.name = Sb (nameN X.i X.cur)) (hno : no + 20 <= 1099511627776) (hL : L + 20 <= 1073741824) (hl : fs.length <= 60000) (hf : (fs.map (·.name)).Nodup) : AppH X fs x l q no L := by
 have h1 := h.cnt
 have h2 := h.en2
 have h4 := h.body
 rw [List.length_append] at h1
 refine ⟨h.en, h.lim0, h.lim1, h.cmh hp hx, h.da, by omega, fun k => ?_, h.clock, fun k hk hq hc hs => ?_, h.woff, by omega, h.tabA, by omega, by omega, by omega⟩
 ·have h3 := (h.commit hp hx (h.curf hf hp hx)).sth
  exact ⟨⟨h3.rows.segs, h3.rows.num, h3.rows.len⟩, h3.short, h3.offs, h3.en, h3.wl, h3.keys⟩
 ·exact (h.clk hk).rollH hp hx hc hs hq hno hL hl
end
end Go.Proofs.YtendlmdmbkcdnaaGreatDoor.tp
