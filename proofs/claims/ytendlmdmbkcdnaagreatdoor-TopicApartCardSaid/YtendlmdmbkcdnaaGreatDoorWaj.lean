/-
  Texts of the proof joined by a program: Pab Pac Pad Pae.
-/
import Derived.Test.YtendlmdmbkcdnaaGreatDoorVz
import Derived.Test.YtendlmdmbkcdnaaGreatDoorVg
import Derived.Laws.StructEq
import Derived.Lib.AtoiErrMem
import Derived.Test.YtendlmdmbkcdnaaGreatDoorVw
set_option linter.unusedSimpArgs false
set_option linter.unusedVariables false
namespace Go.Proofs.YtendlmdmbkcdnaaGreatDoor.tp
open Go.RowKit Go.Maps Go.WideMaps oc sg ma hi
open Go.Lib (hid)
open Go.Lib (itoa)
set_option maxRecDepth 100000
def fnC (k id sg : Int) : Array Value := #[.int .i64 k, .int .i64 id, .int .i64 sg, .bool false]
set_option maxHeartbeats 4000000 in
theorem piece_any (w : World) (k id sg : Int) (e : List UInt8) (h1 : okNum id = true) (h2 : okNum sg = true) (h3 : 1 <= sg) (he : e.length <= 10) (ht : Tab w) :
  Calls Tryz.prog 124 #[.agg (fnC k id sg), .string (Sb e)] w fun z w' => z = .returned (.string (Sb ([116] ++ itoa id ++ [46] ++ itoa sg ++ e))) /\ Below w.heap.size w w' := by
 simp only [okNum, Bool.and_eq_true, decide_eq_true_eq] at h1 h2
 have z1 := sb_len id (by omega) (by omega)
 have z2 := sb_len sg (by omega) (by omega)
 have z3 : (Sb e).size <= 10 := by rw [sb_size]; exact he
 have y1 : ¬ 9223372036854775807 < 1 + (Sb (itoa id)).size := by omega
 have y2 : ¬ 9223372036854775807 < 1 + (Sb (itoa id)).size + 1 := by omega
 have y3 : ¬ 9223372036854775807 < 1 + (Sb (itoa id)).size + 1 + (Sb (itoa sg)).size := by omega
 have y4 : ¬ 9223372036854775807 < 1 + (Sb (itoa id)).size + 1 + (Sb (itoa sg)).size + (Sb e).size := by omega
 have i1 : decide (id < 1073741824) = true := decide_eq_true h1.2
 have i2 : decide (0 <= id) = true := decide_eq_true h1.1
 have i3 : decide (sg < 1073741824) = true := decide_eq_true h2.2
 have i4 : decide (1 <= sg) = true := decide_eq_true h3
 have HN := hid h1
 have HM := hid h2
 have HE : Hid (((((Sb [116] ++ Sb (itoa id)) ++ Sb [46]) ++ Sb (itoa sg)) ++ Sb e) = Sb ([116] ++ itoa id ++ [46] ++ itoa sg ++ e)) := hid (by rw [sb_app, sb_app, sb_app, sb_app])
 unfold fnC
 obtain ⟨w1, hw1⟩ : ∃ y, w.alloc (.cells #[.int .i64 k, .int .i64 id, .int .i64 sg, .bool false] 94) = y := ⟨_, rfl⟩
 have HB1 : Hid (Below w.heap.size w w1) := by rw [<- hw1]; exact hid ((Below.refl _ _).alloc (Nat.le_refl _) _)
 have HX1 : Hid (Blk w1 w.heap.size 94 #[.int .i64 k, .int .i64 id, .int .i64 sg, .bool false]) := by rw [<- hw1]; exact hid (Blk.new w _ _)
 have HT1 := hid (tab_below ht HB1.out)
 have e1 : w1.cell? ⟨w.heap.size, 1, none⟩ = some (.int .i64 id) := (HX1.out.cell 1).trans rfl
 have e2 : w1.cell? ⟨w.heap.size, 2, none⟩ = some (.int .i64 sg) := (HX1.out.cell 2).trans rfl
 clear ht h1 h2 h3 he
 go_enter Tryz.func124, Tryz.ntmps124
 have HW1 := hid hw1
 clear hw1
 go_step
 go_step
 go_step
 try rw [HW1.out]
 go_wp2_with (first
  | (go_at_call 63; go_in)
  | fail)
 rw [HW1.out]
 have k1 := fun d os => cell_regrown e1 d os
 have k2 := fun d os => cell_regrown e2 d os
 have q1 : QC Tryz.prog w1 68 #[.int .i64 id] (.string (Sb (itoa id))) := below_qc (fun W hb => itoa_any id (by have := HN.out; omega) (by have := HN.out; omega) W (tab_below HT1.out hb))
 have q2 : QC Tryz.prog w1 68 #[.int .i64 sg] (.string (Sb (itoa sg))) := below_qc (fun W hb => itoa_any sg (by have := HM.out; omega) (by have := HM.out; omega) W (tab_below HT1.out hb))
 clear e1 e2 HW1 i1 i2 i3 i4
 refine wp_region_quiet_below (by kernel_rfl) (by kernel_rfl) ?_
 repeat (first | go_big_quiet_skip | (go_big_quiet_want; go_big_quiet_op; first | go_big_quiet_on | (apply Exists.intro; refine ⟨fun _ => ?_, ?_⟩; · (first | with_reducible exact q1 _ _ | with_reducible exact q2 _ _)); go_big_quiet_on))
 refine wpQuiet_nil ?_
 intro w2 hw'
 obtain ⟨⟨dq, osq⟩, hw''⟩ := hw'
 have HB2 : Hid (Below w.heap.size w w2) := by rw [hw'']; exact hid (HB1.out.trans ((below_regrown w1 dq osq).mono HB1.out.size))
 clear hw'' q1 q2 k1 k2
 go_wp2_with fail
 go_ret
 exact ⟨congrArg (fun s => Ending.returned (Value.string s)) HE.out, HB2.out⟩
set_option maxHeartbeats 4000000 in
theorem name_seg (w : World) (id sg : Int) (h1 : okNum id = true) (h2 : okNum sg = true) (h3 : 1 <= sg) (ht : Tab w) :
  Calls Tryz.prog 65 #[.agg #[.int .i64 1, .int .i64 id, .int .i64 sg, .bool false]] w fun e w' => e = .returned (.string (Sb (nameN id sg))) /\ Below w.heap.size w w' := by
 obtain ⟨nm, hnm⟩ : ∃ s, Sb (nameN id sg) = s := ⟨_, rfl⟩
 have HP : Hid (∀ W, Below w.heap.size w W -> Calls Tryz.prog 124 #[.agg #[.int .i64 1, .int .i64 id, .int .i64 sg, .bool false], .string ⟨#[46, 115, 101, 103]⟩] W fun z w' => z = .returned (.string nm) /\ Below W.heap.size W w') := hid (fun W hW => by
  have h := piece_any W 1 id sg [46, 115, 101, 103] h1 h2 h3 (by decide) (tab_below ht hW)
  rw [<- hnm, show nameN id sg = [116] ++ itoa id ++ [46] ++ itoa sg ++ [46, 115, 101, 103] from rfl]
  exact h)
 have hne : (nm.toList == []) = false := by
  rw [<- hnm, ByteArray.toList_eq]
  simp [Sb, nameN, nameN, hintN]
 have hne2 : nm.toList.isEmpty = false := by
  rw [<- hnm, ByteArray.toList_eq]
  simp [Sb, nameN, nameN, hintN]
 rw [hnm]
 have HB0 : Hid (∀ y, Below w.heap.size w (w.alloc y)) := hid (fun y => (Below.refl _ _).alloc (Nat.le_refl _) y)
 clear ht h1 h2 h3 hnm
 go_enter Tryz.func65, Tryz.ntmps65
 go_wp2_with fail
 refine (HP.out _ (HB0.out _)).mono ?_
 rintro e w2 ⟨rfl, hb2⟩
 have HB2 : Hid (Below w.heap.size w w2) := hid ((HB0.out _).trans (hb2.mono (HB0.out _).size))
 have c3 : w2.cell? ⟨w.heap.size, 3, none⟩ = some (.bool false) := (((Blk.new w 94 #[.int .i64 1, .int .i64 id, .int .i64 sg, .bool false]).below hb2 (by simp)).cell 3).trans rfl
 clear hb2 HB0
 go_wp2_with fail
 all_goals
  go_ret
  exact ⟨rfl, HB2.out⟩
set_option maxHeartbeats 4000000 in
theorem name_hint (w : World) (id sg : Int) (h1 : okNum id = true) (h2 : okNum sg = true) (h3 : 1 <= sg) (ht : Tab w) :
  Calls Tryz.prog 65 #[.agg #[.int .i64 2, .int .i64 id, .int .i64 sg, .bool false]] w fun e w' => e = .returned (.string (Sb (hintN id sg))) /\ Below w.heap.size w w' := by
 obtain ⟨nm, hnm⟩ : ∃ s, Sb (hintN id sg) = s := ⟨_, rfl⟩
 have HP : Hid (∀ W, Below w.heap.size w W -> Calls Tryz.prog 124 #[.agg #[.int .i64 2, .int .i64 id, .int .i64 sg, .bool false], .string ⟨#[46, 104, 105, 110, 116]⟩] W fun z w' => z = .returned (.string nm) /\ Below W.heap.size W w') := hid (fun W hW => by
  have h := piece_any W 2 id sg [46, 104, 105, 110, 116] h1 h2 h3 (by decide) (tab_below ht hW)
  rw [<- hnm, show hintN id sg = [116] ++ itoa id ++ [46] ++ itoa sg ++ [46, 104, 105, 110, 116] from rfl]
  exact h)
 have hne : (nm.toList == []) = false := by
  rw [<- hnm, ByteArray.toList_eq]
  simp [Sb, hintN, nameN, hintN]
 have hne2 : nm.toList.isEmpty = false := by
  rw [<- hnm, ByteArray.toList_eq]
  simp [Sb, hintN, nameN, hintN]
 rw [hnm]
 have HB0 : Hid (∀ y, Below w.heap.size w (w.alloc y)) := hid (fun y => (Below.refl _ _).alloc (Nat.le_refl _) y)
 clear ht h1 h2 h3 hnm
 go_enter Tryz.func65, Tryz.ntmps65
 go_wp2_with fail
 refine (HP.out _ (HB0.out _)).mono ?_
 rintro e w2 ⟨rfl, hb2⟩
 have HB2 : Hid (Below w.heap.size w w2) := hid ((HB0.out _).trans (hb2.mono (HB0.out _).size))
 have c3 : w2.cell? ⟨w.heap.size, 3, none⟩ = some (.bool false) := (((Blk.new w 94 #[.int .i64 2, .int .i64 id, .int .i64 sg, .bool false]).below hb2 (by simp)).cell 3).trans rfl
 clear hb2 HB0
 go_wp2_with fail
 all_goals
  go_ret
  exact ⟨rfl, HB2.out⟩
def MaxLenAt (w : World) : Prop := ∃ m : Int, w.cell? ⟨3, 0, none⟩ = some (.int .i64 m)
theorem MaxLenAt.below {w w' : World} (h : MaxLenAt w) (hb : Below w.heap.size w w') : MaxLenAt w' := by
 obtain ⟨m, h⟩ := h
 refine ⟨m, (hb.cell (block_lt_of_cell h)).trans h⟩
theorem cut_is (w : World) (l : List UInt8) (hl : l.length <= 1000) (h : l.getLast? = some 110 \/ l.getLast? = some 103 \/ l.getLast? = some 116) :
  Calls Tryz.prog 85 #[.string (Sb l), .string ⟨#[46, 116, 109, 112]⟩] w fun e w' => e = .returned (.tuple #[.string (Sb l), .bool false]) /\ w' = w := by
 have h1 := Tryz.par_CutSuffix (Sb l) ⟨#[46, 116, 109, 112]⟩ w (by rw [sb_size]; omega)
 have h2 : Go.Lib.hasSuffix (Sb l).data.toList [46, 116, 109, 112] = false := by rw [sb_data]; exact no_tmp h rfl
 have h3 : Go.Lib.trimSuffix (Sb l).data.toList [46, 116, 109, 112] = l := by
  unfold Go.Lib.trimSuffix
  rw [h2]
  simpa using sb_data l
 have h4 : (⟨#[46, 116, 109, 112]⟩ : ByteArray).data.toList = [46, 116, 109, 112] := rfl
 rw [h4, h2, h3] at h1
 exact h1
theorem atoi_is (w : World) (n : Int) (h : okNum n = true) :
  Calls Tryz.prog 87 #[.string (Sb (itoa n))] w fun e w' => e = .returned (.tuple #[.int .i64 n, .nilIface]) /\ Below w.heap.size w w' := by
 refine (Tryz.par_Atoi (Sb (itoa n)) n (by rw [sb_size]; have := itoa_len h; omega) (by rw [sb_data]; exact atoi_itoa h) w).mono ?_
 rintro e w' ⟨rfl, t, rfl⟩
 exact ⟨rfl, Go.Lib.bytesWorld_below w _ t⟩
theorem trim_is (w : World) (n : Int) :
  Calls Tryz.prog 88 #[.string (Sb (116 :: itoa n)), .string ⟨#[116]⟩] w fun e w' => e = .returned (.string (Sb (itoa n))) /\ w' = w := by
 have h1 := Tryz.par_TrimPrefix (Sb (116 :: itoa n)) ⟨#[116]⟩ w
 rw [show (⟨#[116]⟩ : ByteArray) = Sb [116] from rfl, trim_t] at h1
 exact h1
theorem splits_is (w : World) (l : List UInt8) (hl : l.length <= 1000) (hm : MaxLenAt w) {k : Nat} {ps : List ByteArray} (h : Go.Lib.countB (Sb l) (Sb [46]) = k /\ Go.Lib.splitB (Sb [46]) 0 k (Sb l) = ps) :
  Calls Tryz.prog 86 #[.string (Sb l), .string ⟨#[46]⟩] w fun e w' => e = .returned (.slice (some ⟨w.heap.size, 0, none⟩) (k + 1) (k + 1)) /\ Below w.heap.size w w' /\ Blk w' w.heap.size 9 (ps.map Value.string).toArray := by
 obtain ⟨m, hm⟩ := hm
 have h1 := Tryz.par_Split (Sb l) (Sb [46]) m w (by rw [sb_size]; omega) hm (by rw [sb_size]; decide)
 rw [h.1, h.2] at h1
 refine Calls.mono h1 ?_
 rintro e w' ⟨rfl, rfl⟩
 exact ⟨rfl, (Below.refl _ _).alloc (Nat.le_refl _) _, Blk.new w _ _⟩
structure PW (w0 w : World) (b : Nat) (cs ps : Array Value) : Prop where
 B : Below w0.heap.size w0 w
 R : Blk w w0.heap.size 94 #[.int .i64 0, .int .i64 0, .int .i64 0, .bool false]
 N : Blk w (w0.heap.size + 1) 94 cs
 P : Blk w b 9 ps
 L : w0.heap.size + 1 < b
theorem PW.below {w0 w w' : World} {b : Nat} {cs ps : Array Value} (h : PW w0 w b cs ps) (hb : Below w.heap.size w w') : PW w0 w' b cs ps :=
 ⟨h.B.trans (hb.mono h.B.size), h.R.below hb h.R.lt, h.N.below hb h.N.lt, h.P.below hb h.P.lt, h.L⟩
theorem PW.put {w0 w w' : World} {b : Nat} {cs ds ps : Array Value} (h : PW w0 w b cs ps) (hT : Blk w' (w0.heap.size + 1) 94 ds) (hg : w.grownBy w' (some (w0.heap.size + 1))) : PW w0 w' b ds ps :=
 ⟨h.B.grown hg h.B.size (fun j hj => by injection hj with hj; omega), h.R.grown hg (fun e => by injection e with e; omega), hT, h.P.grown hg (fun e => by have := h.L; injection e with e; omega), h.L⟩
set_option maxHeartbeats 8000000 in
theorem parse_seg (w : World) (id sg : Int) (h1 : okNum id = true) (h2 : okNum sg = true) (h3 : 1 <= sg) (ht : Tab w) (hm : MaxLenAt w) :
  Calls Tryz.prog 32 #[.string (Sb (nameN id sg))] w fun e w' => e = .returned (.agg #[.int .i64 1, .int .i64 id, .int .i64 sg, .bool false]) /\ Below w.heap.size w w' := by
 have hlen : (nameN id sg).length <= 1000 := by
  have h8 := itoa_len h1
  have h9 := itoa_len h2
  simp [manName, nameN, hintN]
  omega
 have HCT := hid (cut_is · (nameN id sg) hlen (by first | (rw [show nameN id sg = _ ++ _ from rfl, List.getLast?_append]; simp) | simp))
 have HSP := hid (fun W (hW : MaxLenAt W) => splits_is W (nameN id sg) hlen hW (split_seg h1 h2))
 have HNM := hid (fun W (hW : Tab W) => name_seg W id sg h1 h2 h3 hW)
 have HAT := hid (fun W => atoi_is W id h1)
 have HAS := hid (fun W => atoi_is W sg h2)
 obtain ⟨nm, hnm⟩ : ∃ x, Sb (nameN id sg) = x := ⟨_, rfl⟩
 have hc : (nm.toList == [99, 97, 116, 97, 108, 111, 103]) = false := by
  rw [<- hnm, ByteArray.toList_eq]
  simp [Sb, manName, nameN, hintN]
 have hz : (nm.toList == []) = false := by
  rw [<- hnm, ByteArray.toList_eq]
  simp [Sb, manName, nameN, hintN]
 have hz2 : nm.toList.isEmpty = false := by
  rw [<- hnm, ByteArray.toList_eq]
  simp [Sb, manName, nameN, hintN]
 rw [hnm] at HCT HSP HNM ⊢
 have hk0 : ((Sb [115, 101, 103]).toList == [115, 101, 103]) = true := by rw [ByteArray.toList_eq]; rfl
 have HT := hid ht
 have HM := hid hm
 clear ht hm hnm hlen h1 h2 h3
 go_enter Tryz.func32, Tryz.ntmps32
 go_wp2_with fail
 obtain ⟨w1, hw1⟩ : ∃ y, (w.alloc (.cells #[.int .i64 0, .int .i64 0, .int .i64 0, .bool false] 94)).alloc (.cells #[.int .i64 0, .int .i64 0, .int .i64 0, .bool false] 94) = y := ⟨_, rfl⟩
 have HB1 : Hid (Below w.heap.size w w1) := by rw [<- hw1]; exact hid (((Below.refl _ _).alloc (Nat.le_refl _) _).alloc (by simp) _)
 have H2 : Hid (Blk w1 w.heap.size 94 #[.int .i64 0, .int .i64 0, .int .i64 0, .bool false]) := by rw [<- hw1]; exact hid ((Blk.new w _ _).alloc _)
 have H3 : Hid (Blk w1 (w.heap.size + 1) 94 #[.int .i64 0, .int .i64 0, .int .i64 0, .bool false]) := by rw [<- hw1]; exact hid (by have := Blk.new (w.alloc (.cells #[.int .i64 0, .int .i64 0, .int .i64 0, .bool false] 94)) 94 #[.int .i64 0, .int .i64 0, .int .i64 0, .bool false]; rwa [World.size_alloc] at this)
 rw [hw1]
 clear hw1
 refine (HCT.out w1).mono ?_
 rintro e w2 ⟨rfl, rfl⟩
 have f3 : w2.frozen? ⟨w.heap.size + 1, 3, none⟩ = false := H3.out.frozen 3
 have c3 : w2.cell? ⟨w.heap.size + 1, 3, none⟩ = some (.bool false) := (H3.out.cell 3).trans rfl
 go_wp2_with (first
  | ((with_reducible refine at_op ⟨none, .store 4 (.tmp 14) (.tmp 13), _, _, _, _⟩ ?_); refine wpList_store_one rfl 4 (.tmp 14) (.tmp 13) rfl (w.heap.size + 1) 3 rfl (.bool false) rfl rfl rfl 94 _ H3.out (by simp) (by kernel_rfl) ?_; intro w3 hT3 hg3 hz3; clear hz3; have HT3 : Hid (Blk w3 (w.heap.size + 1) 94 #[.int .i64 0, .int .i64 0, .int .i64 0, .bool false]) := hid hT3; have HG3 := hid hg3; clear hT3 hg3 f3 c3)
  | fail)
 refine (HSP.out w3 (HM.out.below (HB1.out.grown HG3.out HB1.out.size (fun j hj => by injection hj with hj; omega)))).mono ?_
 rintro e w4 ⟨rfl, hb4, hp4⟩
 obtain ⟨b, hb⟩ : ∃ b, w3.heap.size = b := ⟨_, rfl⟩
 have HW4 : Hid (PW w w4 b #[.int .i64 0, .int .i64 0, .int .i64 0, .bool false] #[.string (Sb (116 :: itoa id)), .string (Sb (itoa sg)), .string (Sb [115, 101, 103])]) := by
  have h3 := HT3.out.lt
  have hR := H2.out.grown HG3.out (fun e => by injection e with e; omega)
  rw [<- hb]
  exact hid ⟨(HB1.out.grown HG3.out HB1.out.size (fun j hj => by injection hj with hj; omega)).trans (hb4.mono (Nat.le_trans HB1.out.size HG3.out.size)), hR.below hb4 hR.lt, HT3.out.below hb4 h3, hp4, h3⟩
 rw [hb]
 clear hb4 hp4 HT3 H2 HG3 HB1 hb
 have p0 : w4.cell? ⟨b, 0, none⟩ = some (.string (Sb (116 :: itoa id))) := (HW4.out.P.cell 0).trans rfl
 go_wp2_with fail
 refine (trim_is w4 id).mono ?_
 rintro e w5 ⟨rfl, rfl⟩
 clear p0
 go_wp2_with fail
 refine (HAT.out w5).mono ?_
 rintro e w6 ⟨rfl, hb6⟩
 have HW6 := hid (HW4.out.below hb6)
 clear hb6 HW4
 have p1 : w6.cell? ⟨b, 1, none⟩ = some (.string (Sb (itoa sg))) := (HW6.out.P.cell 1).trans rfl
 go_wp2_with (first
  | ((with_reducible refine at_op ⟨none, .store 3 (.tmp 29) (.tmp 27), _, _, _, _⟩ ?_); refine wpList_store_one rfl 3 (.tmp 29) (.tmp 27) rfl (w.heap.size + 1) 1 rfl (.int .i64 id) rfl rfl rfl 94 _ HW6.out.N (by simp) (by kernel_rfl) ?_; intro w7 hT7 hg7 hz7; have HW7 : Hid (PW w w7 b #[.int .i64 0, .int .i64 id, .int .i64 0, .bool false] #[.string (Sb (116 :: itoa id)), .string (Sb (itoa sg)), .string (Sb [115, 101, 103])]) := hid (HW6.out.put hT7 hg7); clear hT7 hg7 hz7 HW6; have q1 : w7.cell? ⟨b, 1, none⟩ = some (.string (Sb (itoa sg))) := (HW7.out.P.cell 1).trans rfl; have q2 : w7.cell? ⟨b, 2, none⟩ = some (.string (Sb [115, 101, 103])) := (HW7.out.P.cell 2).trans rfl; clear p1)
  | ((with_reducible refine at_op ⟨none, .store 3 (.tmp 51) (.const (.int .i64 1)), _, _, _, _⟩ ?_); refine wpList_store_one rfl 3 (.tmp 51) (.const (.int .i64 1)) rfl (w.heap.size + 1) 0 rfl (.int .i64 1) rfl rfl rfl 94 _ HW7.out.N (by simp) (by kernel_rfl) ?_; intro w8 hT8 hg8 hz8; have HW8 : Hid (PW w w8 b #[.int .i64 1, .int .i64 id, .int .i64 0, .bool false] #[.string (Sb (116 :: itoa id)), .string (Sb (itoa sg)), .string (Sb [115, 101, 103])]) := hid (HW7.out.put hT8 hg8); clear hT8 hg8 hz8 HW7; have q1 : w8.cell? ⟨b, 1, none⟩ = some (.string (Sb (itoa sg))) := (HW8.out.P.cell 1).trans rfl)
  | fail)
 clear q1
 refine (HAS.out w8).mono ?_
 rintro e w9 ⟨rfl, hb9⟩
 have HW9 := hid (HW8.out.below hb9)
 clear hb9 HW8
 go_wp2_with (first
  | ((with_reducible refine at_op ⟨none, .store 3 (.tmp 73) (.tmp 71), _, _, _, _⟩ ?_); refine wpList_store_one rfl 3 (.tmp 73) (.tmp 71) rfl (w.heap.size + 1) 2 rfl (.int .i64 sg) rfl rfl rfl 94 _ HW9.out.N (by simp) (by kernel_rfl) ?_; intro w10 hT10 hg10 hz10; have HW10 : Hid (PW w w10 b #[.int .i64 1, .int .i64 id, .int .i64 sg, .bool false] #[.string (Sb (116 :: itoa id)), .string (Sb (itoa sg)), .string (Sb [115, 101, 103])]) := hid (HW9.out.put hT10 hg10); clear hT10 hg10 hz10 HW9; have c0 : w10.cell? ⟨w.heap.size + 1, 0, none⟩ = some (.int .i64 1) := (HW10.out.N.cell 0).trans rfl; have c1 : w10.cell? ⟨w.heap.size + 1, 1, none⟩ = some (.int .i64 id) := (HW10.out.N.cell 1).trans rfl; have c2 : w10.cell? ⟨w.heap.size + 1, 2, none⟩ = some (.int .i64 sg) := (HW10.out.N.cell 2).trans rfl; have c3 : w10.cell? ⟨w.heap.size + 1, 3, none⟩ = some (.bool false) := (HW10.out.N.cell 3).trans rfl)
  | fail)
 refine (HNM.out w10 (tab_below HT.out HW10.out.B)).mono ?_
 rintro e w11 ⟨rfl, hb11⟩
 have HW11 := hid (HW10.out.below hb11)
 clear hb11 HW10 c0 c1 c2 c3
 have c0 : w11.cell? ⟨w.heap.size + 1, 0, none⟩ = some (.int .i64 1) := (HW11.out.N.cell 0).trans rfl
 have c1 : w11.cell? ⟨w.heap.size + 1, 1, none⟩ = some (.int .i64 id) := (HW11.out.N.cell 1).trans rfl
 have c2 : w11.cell? ⟨w.heap.size + 1, 2, none⟩ = some (.int .i64 sg) := (HW11.out.N.cell 2).trans rfl
 have c3 : w11.cell? ⟨w.heap.size + 1, 3, none⟩ = some (.bool false) := (HW11.out.N.cell 3).trans rfl
 go_wp2_with (first
  | ((with_reducible refine at_op ⟨none, .store 94 (.tmp 2) (.tmp 83), _, _, _, _⟩ ?_); refine wpList_store_blk rfl 94 (.tmp 2) (.tmp 83) rfl w.heap.size 0 rfl [.int .i64 1, .int .i64 id, .int .i64 sg, .bool false] rfl (by simp [Value.oneCell']) 94 _ HW11.out.R (by simp) (by kernel_rfl) ?_; intro w12 hT12 hg12 hs12; have HT12 : Hid (Blk w12 w.heap.size 94 #[.int .i64 1, .int .i64 id, .int .i64 sg, .bool false]) := hid hT12; have HG12 := hid hg12; clear hT12 hg12 hs12 c0 c1 c2 c3)
  | fail)
 refine bodyPost_ret (results_cell_row rfl _ _ w.heap.size 94 #[.int .i64 1, .int .i64 id, .int .i64 sg, .bool false] (0, 0) _ rfl HT12.out Tryz.underlying94 rfl (by kernel_rfl)) rfl ?_
 exact ⟨rfl, HW11.out.B.grown HG12.out HW11.out.B.size (fun j hj => by injection hj with hj; omega)⟩
set_option maxHeartbeats 8000000 in
theorem parse_hint (w : World) (id sg : Int) (h1 : okNum id = true) (h2 : okNum sg = true) (h3 : 1 <= sg) (ht : Tab w) (hm : MaxLenAt w) :
  Calls Tryz.prog 32 #[.string (Sb (hintN id sg))] w fun e w' => e = .returned (.agg #[.int .i64 2, .int .i64 id, .int .i64 sg, .bool false]) /\ Below w.heap.size w w' := by
 have hlen : (hintN id sg).length <= 1000 := by
  have h8 := itoa_len h1
  have h9 := itoa_len h2
  simp [manName, nameN, hintN]
  omega
 have HCT := hid (cut_is · (hintN id sg) hlen (by first | (rw [show hintN id sg = _ ++ _ from rfl, List.getLast?_append]; simp) | simp))
 have HSP := hid (fun W (hW : MaxLenAt W) => splits_is W (hintN id sg) hlen hW (split_hint h1 h2))
 have HNM := hid (fun W (hW : Tab W) => name_hint W id sg h1 h2 h3 hW)
 have HAT := hid (fun W => atoi_is W id h1)
 have HAS := hid (fun W => atoi_is W sg h2)
 obtain ⟨nm, hnm⟩ : ∃ x, Sb (hintN id sg) = x := ⟨_, rfl⟩
 have hc : (nm.toList == [99, 97, 116, 97, 108, 111, 103]) = false := by
  rw [<- hnm, ByteArray.toList_eq]
  simp [Sb, manName, nameN, hintN]
 have hz : (nm.toList == []) = false := by
  rw [<- hnm, ByteArray.toList_eq]
  simp [Sb, manName, nameN, hintN]
 have hz2 : nm.toList.isEmpty = false := by
  rw [<- hnm, ByteArray.toList_eq]
  simp [Sb, manName, nameN, hintN]
 rw [hnm] at HCT HSP HNM ⊢
 have hk0 : ((Sb [104, 105, 110, 116]).toList == [115, 101, 103]) = false := by rw [ByteArray.toList_eq]; rfl
 have hk1 : ((Sb [104, 105, 110, 116]).toList == [104, 105, 110, 116]) = true := by rw [ByteArray.toList_eq]; rfl
 have HT := hid ht
 have HM := hid hm
 clear ht hm hnm hlen h1 h2 h3
 go_enter Tryz.func32, Tryz.ntmps32
 go_wp2_with fail
 obtain ⟨w1, hw1⟩ : ∃ y, (w.alloc (.cells #[.int .i64 0, .int .i64 0, .int .i64 0, .bool false] 94)).alloc (.cells #[.int .i64 0, .int .i64 0, .int .i64 0, .bool false] 94) = y := ⟨_, rfl⟩
 have HB1 : Hid (Below w.heap.size w w1) := by rw [<- hw1]; exact hid (((Below.refl _ _).alloc (Nat.le_refl _) _).alloc (by simp) _)
 have H2 : Hid (Blk w1 w.heap.size 94 #[.int .i64 0, .int .i64 0, .int .i64 0, .bool false]) := by rw [<- hw1]; exact hid ((Blk.new w _ _).alloc _)
 have H3 : Hid (Blk w1 (w.heap.size + 1) 94 #[.int .i64 0, .int .i64 0, .int .i64 0, .bool false]) := by rw [<- hw1]; exact hid (by have := Blk.new (w.alloc (.cells #[.int .i64 0, .int .i64 0, .int .i64 0, .bool false] 94)) 94 #[.int .i64 0, .int .i64 0, .int .i64 0, .bool false]; rwa [World.size_alloc] at this)
 rw [hw1]
 clear hw1
 refine (HCT.out w1).mono ?_
 rintro e w2 ⟨rfl, rfl⟩
 have f3 : w2.frozen? ⟨w.heap.size + 1, 3, none⟩ = false := H3.out.frozen 3
 have c3 : w2.cell? ⟨w.heap.size + 1, 3, none⟩ = some (.bool false) := (H3.out.cell 3).trans rfl
 go_wp2_with (first
  | ((with_reducible refine at_op ⟨none, .store 4 (.tmp 14) (.tmp 13), _, _, _, _⟩ ?_); refine wpList_store_one rfl 4 (.tmp 14) (.tmp 13) rfl (w.heap.size + 1) 3 rfl (.bool false) rfl rfl rfl 94 _ H3.out (by simp) (by kernel_rfl) ?_; intro w3 hT3 hg3 hz3; clear hz3; have HT3 : Hid (Blk w3 (w.heap.size + 1) 94 #[.int .i64 0, .int .i64 0, .int .i64 0, .bool false]) := hid hT3; have HG3 := hid hg3; clear hT3 hg3 f3 c3)
  | fail)
 refine (HSP.out w3 (HM.out.below (HB1.out.grown HG3.out HB1.out.size (fun j hj => by injection hj with hj; omega)))).mono ?_
 rintro e w4 ⟨rfl, hb4, hp4⟩
 obtain ⟨b, hb⟩ : ∃ b, w3.heap.size = b := ⟨_, rfl⟩
 have HW4 : Hid (PW w w4 b #[.int .i64 0, .int .i64 0, .int .i64 0, .bool false] #[.string (Sb (116 :: itoa id)), .string (Sb (itoa sg)), .string (Sb [104, 105, 110, 116])]) := by
  have h3 := HT3.out.lt
  have hR := H2.out.grown HG3.out (fun e => by injection e with e; omega)
  rw [<- hb]
  exact hid ⟨(HB1.out.grown HG3.out HB1.out.size (fun j hj => by injection hj with hj; omega)).trans (hb4.mono (Nat.le_trans HB1.out.size HG3.out.size)), hR.below hb4 hR.lt, HT3.out.below hb4 h3, hp4, h3⟩
 rw [hb]
 clear hb4 hp4 HT3 H2 HG3 HB1 hb
 have p0 : w4.cell? ⟨b, 0, none⟩ = some (.string (Sb (116 :: itoa id))) := (HW4.out.P.cell 0).trans rfl
 go_wp2_with fail
 refine (trim_is w4 id).mono ?_
 rintro e w5 ⟨rfl, rfl⟩
 clear p0
 go_wp2_with fail
 refine (HAT.out w5).mono ?_
 rintro e w6 ⟨rfl, hb6⟩
 have HW6 := hid (HW4.out.below hb6)
 clear hb6 HW4
 have p1 : w6.cell? ⟨b, 1, none⟩ = some (.string (Sb (itoa sg))) := (HW6.out.P.cell 1).trans rfl
 go_wp2_with (first
  | ((with_reducible refine at_op ⟨none, .store 3 (.tmp 29) (.tmp 27), _, _, _, _⟩ ?_); refine wpList_store_one rfl 3 (.tmp 29) (.tmp 27) rfl (w.heap.size + 1) 1 rfl (.int .i64 id) rfl rfl rfl 94 _ HW6.out.N (by simp) (by kernel_rfl) ?_; intro w7 hT7 hg7 hz7; have HW7 : Hid (PW w w7 b #[.int .i64 0, .int .i64 id, .int .i64 0, .bool false] #[.string (Sb (116 :: itoa id)), .string (Sb (itoa sg)), .string (Sb [104, 105, 110, 116])]) := hid (HW6.out.put hT7 hg7); clear hT7 hg7 hz7 HW6; have q1 : w7.cell? ⟨b, 1, none⟩ = some (.string (Sb (itoa sg))) := (HW7.out.P.cell 1).trans rfl; have q2 : w7.cell? ⟨b, 2, none⟩ = some (.string (Sb [104, 105, 110, 116])) := (HW7.out.P.cell 2).trans rfl; clear p1)
  | ((with_reducible refine at_op ⟨none, .store 3 (.tmp 62) (.const (.int .i64 2)), _, _, _, _⟩ ?_); refine wpList_store_one rfl 3 (.tmp 62) (.const (.int .i64 2)) rfl (w.heap.size + 1) 0 rfl (.int .i64 2) rfl rfl rfl 94 _ HW7.out.N (by simp) (by kernel_rfl) ?_; intro w8 hT8 hg8 hz8; have HW8 : Hid (PW w w8 b #[.int .i64 2, .int .i64 id, .int .i64 0, .bool false] #[.string (Sb (116 :: itoa id)), .string (Sb (itoa sg)), .string (Sb [104, 105, 110, 116])]) := hid (HW7.out.put hT8 hg8); clear hT8 hg8 hz8 HW7; have q1 : w8.cell? ⟨b, 1, none⟩ = some (.string (Sb (itoa sg))) := (HW8.out.P.cell 1).trans rfl)
  | fail)
 clear q1
 refine (HAS.out w8).mono ?_
 rintro e w9 ⟨rfl, hb9⟩
 have HW9 := hid (HW8.out.below hb9)
 clear hb9 HW8
 go_wp2_with (first
  | ((with_reducible refine at_op ⟨none, .store 3 (.tmp 73) (.tmp 71), _, _, _, _⟩ ?_); refine wpList_store_one rfl 3 (.tmp 73) (.tmp 71) rfl (w.heap.size + 1) 2 rfl (.int .i64 sg) rfl rfl rfl 94 _ HW9.out.N (by simp) (by kernel_rfl) ?_; intro w10 hT10 hg10 hz10; have HW10 : Hid (PW w w10 b #[.int .i64 2, .int .i64 id, .int .i64 sg, .bool false] #[.string (Sb (116 :: itoa id)), .string (Sb (itoa sg)), .string (Sb [104, 105, 110, 116])]) := hid (HW9.out.put hT10 hg10); clear hT10 hg10 hz10 HW9; have c0 : w10.cell? ⟨w.heap.size + 1, 0, none⟩ = some (.int .i64 2) := (HW10.out.N.cell 0).trans rfl; have c1 : w10.cell? ⟨w.heap.size + 1, 1, none⟩ = some (.int .i64 id) := (HW10.out.N.cell 1).trans rfl; have c2 : w10.cell? ⟨w.heap.size + 1, 2, none⟩ = some (.int .i64 sg) := (HW10.out.N.cell 2).trans rfl; have c3 : w10.cell? ⟨w.heap.size + 1, 3, none⟩ = some (.bool false) := (HW10.out.N.cell 3).trans rfl)
  | fail)
 refine (HNM.out w10 (tab_below HT.out HW10.out.B)).mono ?_
 rintro e w11 ⟨rfl, hb11⟩
 have HW11 := hid (HW10.out.below hb11)
 clear hb11 HW10 c0 c1 c2 c3
 have c0 : w11.cell? ⟨w.heap.size + 1, 0, none⟩ = some (.int .i64 2) := (HW11.out.N.cell 0).trans rfl
 have c1 : w11.cell? ⟨w.heap.size + 1, 1, none⟩ = some (.int .i64 id) := (HW11.out.N.cell 1).trans rfl
 have c2 : w11.cell? ⟨w.heap.size + 1, 2, none⟩ = some (.int .i64 sg) := (HW11.out.N.cell 2).trans rfl
 have c3 : w11.cell? ⟨w.heap.size + 1, 3, none⟩ = some (.bool false) := (HW11.out.N.cell 3).trans rfl
 go_wp2_with (first
  | ((with_reducible refine at_op ⟨none, .store 94 (.tmp 2) (.tmp 83), _, _, _, _⟩ ?_); refine wpList_store_blk rfl 94 (.tmp 2) (.tmp 83) rfl w.heap.size 0 rfl [.int .i64 2, .int .i64 id, .int .i64 sg, .bool false] rfl (by simp [Value.oneCell']) 94 _ HW11.out.R (by simp) (by kernel_rfl) ?_; intro w12 hT12 hg12 hs12; have HT12 : Hid (Blk w12 w.heap.size 94 #[.int .i64 2, .int .i64 id, .int .i64 sg, .bool false]) := hid hT12; have HG12 := hid hg12; clear hT12 hg12 hs12 c0 c1 c2 c3)
  | fail)
 refine bodyPost_ret (results_cell_row rfl _ _ w.heap.size 94 #[.int .i64 2, .int .i64 id, .int .i64 sg, .bool false] (0, 0) _ rfl HT12.out Tryz.underlying94 rfl (by kernel_rfl)) rfl ?_
 exact ⟨rfl, HW11.out.B.grown HG12.out HW11.out.B.size (fun j hj => by injection hj with hj; omega)⟩
set_option maxHeartbeats 8000000 in
theorem parse_man (w : World) (id : Int) (h1 : okNum id = true) (ht : Tab w) (hm : MaxLenAt w) :
  Calls Tryz.prog 32 #[.string (Sb (manName id))] w fun e w' => e = .returned (.agg #[.int .i64 3, .int .i64 id, .int .i64 0, .bool false]) /\ Below w.heap.size w w' := by
 have hlen : (manName id).length <= 1000 := by
  have h8 := itoa_len h1
  simp [manName, nameN, hintN]
  omega
 have HCT := hid (cut_is · (manName id) hlen (by first | (rw [show manName id = _ ++ _ from rfl, List.getLast?_append]; simp) | simp))
 have HSP := hid (fun W (hW : MaxLenAt W) => splits_is W (manName id) hlen hW (split_man h1))
 have HNM := hid (fun W (hW : Tab W) => name_man W id h1 hW)
 have HAT := hid (fun W => atoi_is W id h1)
 obtain ⟨nm, hnm⟩ : ∃ x, Sb (manName id) = x := ⟨_, rfl⟩
 have hc : (nm.toList == [99, 97, 116, 97, 108, 111, 103]) = false := by
  rw [<- hnm, ByteArray.toList_eq]
  simp [Sb, manName, nameN, hintN]
 have hz : (nm.toList == []) = false := by
  rw [<- hnm, ByteArray.toList_eq]
  simp [Sb, manName, nameN, hintN]
 have hz2 : nm.toList.isEmpty = false := by
  rw [<- hnm, ByteArray.toList_eq]
  simp [Sb, manName, nameN, hintN]
 rw [hnm] at HCT HSP HNM ⊢
 have hk0 : ((Sb [109, 97, 110]).toList == [109, 97, 110]) = true := by rw [ByteArray.toList_eq]; rfl
 have HT := hid ht
 have HM := hid hm
 clear ht hm hnm hlen h1
 go_enter Tryz.func32, Tryz.ntmps32
 go_wp2_with fail
 obtain ⟨w1, hw1⟩ : ∃ y, (w.alloc (.cells #[.int .i64 0, .int .i64 0, .int .i64 0, .bool false] 94)).alloc (.cells #[.int .i64 0, .int .i64 0, .int .i64 0, .bool false] 94) = y := ⟨_, rfl⟩
 have HB1 : Hid (Below w.heap.size w w1) := by rw [<- hw1]; exact hid (((Below.refl _ _).alloc (Nat.le_refl _) _).alloc (by simp) _)
 have H2 : Hid (Blk w1 w.heap.size 94 #[.int .i64 0, .int .i64 0, .int .i64 0, .bool false]) := by rw [<- hw1]; exact hid ((Blk.new w _ _).alloc _)
 have H3 : Hid (Blk w1 (w.heap.size + 1) 94 #[.int .i64 0, .int .i64 0, .int .i64 0, .bool false]) := by rw [<- hw1]; exact hid (by have := Blk.new (w.alloc (.cells #[.int .i64 0, .int .i64 0, .int .i64 0, .bool false] 94)) 94 #[.int .i64 0, .int .i64 0, .int .i64 0, .bool false]; rwa [World.size_alloc] at this)
 rw [hw1]
 clear hw1
 refine (HCT.out w1).mono ?_
 rintro e w2 ⟨rfl, rfl⟩
 have f3 : w2.frozen? ⟨w.heap.size + 1, 3, none⟩ = false := H3.out.frozen 3
 have c3 : w2.cell? ⟨w.heap.size + 1, 3, none⟩ = some (.bool false) := (H3.out.cell 3).trans rfl
 go_wp2_with (first
  | ((with_reducible refine at_op ⟨none, .store 4 (.tmp 14) (.tmp 13), _, _, _, _⟩ ?_); refine wpList_store_one rfl 4 (.tmp 14) (.tmp 13) rfl (w.heap.size + 1) 3 rfl (.bool false) rfl rfl rfl 94 _ H3.out (by simp) (by kernel_rfl) ?_; intro w3 hT3 hg3 hz3; clear hz3; have HT3 : Hid (Blk w3 (w.heap.size + 1) 94 #[.int .i64 0, .int .i64 0, .int .i64 0, .bool false]) := hid hT3; have HG3 := hid hg3; clear hT3 hg3 f3 c3)
  | fail)
 refine (HSP.out w3 (HM.out.below (HB1.out.grown HG3.out HB1.out.size (fun j hj => by injection hj with hj; omega)))).mono ?_
 rintro e w4 ⟨rfl, hb4, hp4⟩
 obtain ⟨b, hb⟩ : ∃ b, w3.heap.size = b := ⟨_, rfl⟩
 have HW4 : Hid (PW w w4 b #[.int .i64 0, .int .i64 0, .int .i64 0, .bool false] #[.string (Sb (116 :: itoa id)), .string (Sb [109, 97, 110])]) := by
  have h3 := HT3.out.lt
  have hR := H2.out.grown HG3.out (fun e => by injection e with e; omega)
  rw [<- hb]
  exact hid ⟨(HB1.out.grown HG3.out HB1.out.size (fun j hj => by injection hj with hj; omega)).trans (hb4.mono (Nat.le_trans HB1.out.size HG3.out.size)), hR.below hb4 hR.lt, HT3.out.below hb4 h3, hp4, h3⟩
 rw [hb]
 clear hb4 hp4 HT3 H2 HG3 HB1 hb
 have p0 : w4.cell? ⟨b, 0, none⟩ = some (.string (Sb (116 :: itoa id))) := (HW4.out.P.cell 0).trans rfl
 go_wp2_with fail
 refine (trim_is w4 id).mono ?_
 rintro e w5 ⟨rfl, rfl⟩
 clear p0
 go_wp2_with fail
 refine (HAT.out w5).mono ?_
 rintro e w6 ⟨rfl, hb6⟩
 have HW6 := hid (HW4.out.below hb6)
 clear hb6 HW4
 have p1 : w6.cell? ⟨b, 1, none⟩ = some (.string (Sb [109, 97, 110])) := (HW6.out.P.cell 1).trans rfl
 go_wp2_with (first
  | ((with_reducible refine at_op ⟨none, .store 3 (.tmp 29) (.tmp 27), _, _, _, _⟩ ?_); refine wpList_store_one rfl 3 (.tmp 29) (.tmp 27) rfl (w.heap.size + 1) 1 rfl (.int .i64 id) rfl rfl rfl 94 _ HW6.out.N (by simp) (by kernel_rfl) ?_; intro w7 hT7 hg7 hz7; have HW7 : Hid (PW w w7 b #[.int .i64 0, .int .i64 id, .int .i64 0, .bool false] #[.string (Sb (116 :: itoa id)), .string (Sb [109, 97, 110])]) := hid (HW6.out.put hT7 hg7); clear hT7 hg7 hz7 HW6; have q1 : w7.cell? ⟨b, 1, none⟩ = some (.string (Sb [109, 97, 110])) := (HW7.out.P.cell 1).trans rfl; clear p1)
  | ((with_reducible refine at_op ⟨none, .store 3 (.tmp 40) (.const (.int .i64 3)), _, _, _, _⟩ ?_); refine wpList_store_one rfl 3 (.tmp 40) (.const (.int .i64 3)) rfl (w.heap.size + 1) 0 rfl (.int .i64 3) rfl rfl rfl 94 _ HW7.out.N (by simp) (by kernel_rfl) ?_; intro w8 hT8 hg8 hz8; have HW8 : Hid (PW w w8 b #[.int .i64 3, .int .i64 id, .int .i64 0, .bool false] #[.string (Sb (116 :: itoa id)), .string (Sb [109, 97, 110])]) := hid (HW7.out.put hT8 hg8); clear hT8 hg8 hz8 HW7; have c0 : w8.cell? ⟨w.heap.size + 1, 0, none⟩ = some (.int .i64 3) := (HW8.out.N.cell 0).trans rfl; have c1 : w8.cell? ⟨w.heap.size + 1, 1, none⟩ = some (.int .i64 id) := (HW8.out.N.cell 1).trans rfl; have c2 : w8.cell? ⟨w.heap.size + 1, 2, none⟩ = some (.int .i64 0) := (HW8.out.N.cell 2).trans rfl; have c3 : w8.cell? ⟨w.heap.size + 1, 3, none⟩ = some (.bool false) := (HW8.out.N.cell 3).trans rfl)
  | fail)
 refine (HNM.out w8 (tab_below HT.out HW8.out.B)).mono ?_
 rintro e w11 ⟨rfl, hb11⟩
 have HW11 := hid (HW8.out.below hb11)
 clear hb11 HW8 c0 c1 c2 c3
 have c0 : w11.cell? ⟨w.heap.size + 1, 0, none⟩ = some (.int .i64 3) := (HW11.out.N.cell 0).trans rfl
 have c1 : w11.cell? ⟨w.heap.size + 1, 1, none⟩ = some (.int .i64 id) := (HW11.out.N.cell 1).trans rfl
 have c2 : w11.cell? ⟨w.heap.size + 1, 2, none⟩ = some (.int .i64 0) := (HW11.out.N.cell 2).trans rfl
 have c3 : w11.cell? ⟨w.heap.size + 1, 3, none⟩ = some (.bool false) := (HW11.out.N.cell 3).trans rfl
 go_wp2_with (first
  | ((with_reducible refine at_op ⟨none, .store 94 (.tmp 2) (.tmp 83), _, _, _, _⟩ ?_); refine wpList_store_blk rfl 94 (.tmp 2) (.tmp 83) rfl w.heap.size 0 rfl [.int .i64 3, .int .i64 id, .int .i64 0, .bool false] rfl (by simp [Value.oneCell']) 94 _ HW11.out.R (by simp) (by kernel_rfl) ?_; intro w12 hT12 hg12 hs12; have HT12 : Hid (Blk w12 w.heap.size 94 #[.int .i64 3, .int .i64 id, .int .i64 0, .bool false]) := hid hT12; have HG12 := hid hg12; clear hT12 hg12 hs12 c0 c1 c2 c3)
  | fail)
 refine bodyPost_ret (results_cell_row rfl _ _ w.heap.size 94 #[.int .i64 3, .int .i64 id, .int .i64 0, .bool false] (0, 0) _ rfl HT12.out Tryz.underlying94 rfl (by kernel_rfl)) rfl ?_
 exact ⟨rfl, HW11.out.B.grown HG12.out HW11.out.B.size (fun j hj => by injection hj with hj; omega)⟩
end Go.Proofs.YtendlmdmbkcdnaaGreatDoor.tp
namespace Go.Proofs.YtendlmdmbkcdnaaGreatDoor.tp
open Go.RowKit Go.Maps Go.WideMaps oc rc gh dk sg ma hi kd dd
open Go.Proofs (encStr)
open ri (lnm)
set_option maxRecDepth 100000
def PName (s : List UInt8) (i : Int) : Prop := ∃ k sg : Int, 1 <= k /\ k <= 3 /\ ∀ W, Tab W -> MaxLenAt W -> Calls Tryz.prog 32 #[encStr s] W fun e w' => e = .returned (.agg #[.int .i64 k, .int .i64 i, .int .i64 sg, .bool false]) /\ Below W.heap.size W w'
theorem pname_seg {id sg : Int} (h1 : okNum id = true) (h2 : okNum sg = true) (h3 : 1 <= sg) : PName (nameN id sg) id := ⟨1, sg, by omega, by omega, fun W ht hm => parse_seg W id sg h1 h2 h3 ht hm⟩
theorem pname_hint {id sg : Int} (h1 : okNum id = true) (h2 : okNum sg = true) (h3 : 1 <= sg) : PName (hintN id sg) id := ⟨2, sg, by omega, by omega, fun W ht hm => parse_hint W id sg h1 h2 h3 ht hm⟩
theorem pname_man {id : Int} (h1 : okNum id = true) : PName (manName id) id := ⟨3, 0, by omega, by omega, fun W ht hm => parse_man W id h1 ht hm⟩
theorem infoS : (Tryz.prog.info? 9).map (fun i => (i.zero, i.size, i.bytes)) = some (some (.string ⟨#[]⟩), 1, 16) := by kernel_rfl
set_option maxHeartbeats 8000000 in
theorem files_any (w : World) (G : Gh) (d : Nat) (q : Int) (fs : List Fil) (no L : Nat) (h : DK w G d q fs no L) (hl : fs.length <= 65536) (ht : Tab w) (hm : MaxLenAt w) (T : List UInt8 -> Int) (hT : ∀ f ∈ fs, PName (lnm f) (T (lnm f))) (id lim ret : Int) :
  Calls Tryz.prog 38 #[.agg (placeC d id lim ret)] w fun e w' => ∃ A c ns, e = .returned (.tuple #[.slice A (List.length ns) c, .int .i64 0]) /\ ns.Perm ((fs.map lnm).filter fun s => decide (T s = id)) /\ w'.ownsRow w.heap.size 9 1 (.slice A ns.length c) ns.length (ns.map encStr) /\ Below w.heap.size w w' := by
 obtain ⟨i0, hi, hz0, hz1, hz2⟩ := info_parts infoS
 have HK := Lib.hid h
 have HT := Lib.hid ht
 have HM := Lib.hid hm
 have HL := Lib.hid hl
 have HTT := Lib.hid hT
 clear h ht hm hl hT
 unfold placeC
 go_enter Tryz.func38, Tryz.ntmps38
 go_wp2_with fail
 obtain ⟨w0, hw0⟩ : ∃ x, w.alloc (.cells #[.pointer (some ⟨d, 0, none⟩), .int .i64 id, .int .i64 lim, .int .i64 ret] 102) = x := ⟨_, rfl⟩
 have HB0 : Hid (Below w.heap.size w w0) := by rw [<- hw0]; exact Lib.hid ((Below.refl _ _).alloc (Nat.le_refl _) _)
 have HP0 : Hid (Blk w0 w.heap.size 102 #[.pointer (some ⟨d, 0, none⟩), .int .i64 id, .int .i64 lim, .int .i64 ret]) := by rw [<- hw0]; exact Lib.hid (Blk.new _ _ _)
 try rw [hw0]
 clear hw0
 refine (Go.Proofs.YtendlmdmbkcdnaaGreatDoor.ri.dk_list w0 G d q fs no L (HK.out.below HB0.out) (by simpa using HL.out)).mono ?_
 rintro e w2 ⟨v, ss, rfl, -, hp, ho, hb⟩
 obtain ⟨ks, hks⟩ : ∃ ks, ss.mergeSort (fun x y => decide (x <= y)) = ks := ⟨_, rfl⟩
 have hkl : ks.length = ss.length := by rw [<- hks]; exact List.length_mergeSort ss
 have hpp : ks.Perm (fs.map lnm) := by rw [<- hks]; exact (List.mergeSort_perm ss _).trans hp
 have HPP := Lib.hid hpp
 have HKL : Hid (ks.length <= 65536) := Lib.hid (by have := hpp.length_eq; have := HL.out; simp at *; omega)
 have HKN : Hid (∀ s ∈ ks, PName s (T s)) := Lib.hid (fun s hs => by
  obtain ⟨f, hf, rfl⟩ := List.mem_map.1 (hpp.mem_iff.1 hs)
  exact HTT.out f hf)
 rw [hks, <- hkl] at ho
 obtain ⟨VA, vc, rfl⟩ := own_slice ho
 have HO2 := Lib.hid ho
 have HB2 : Hid (Below w.heap.size w w2) := Lib.hid (HB0.out.trans (hb.mono HB0.out.size))
 have HP2 : Hid (Blk w2 w.heap.size 102 #[.pointer (some ⟨d, 0, none⟩), .int .i64 id, .int .i64 lim, .int .i64 ret]) := Lib.hid (HP0.out.below hb HP0.out.lt)
 have HS0 : Hid (w.heap.size < w0.heap.size) := Lib.hid HP0.out.lt
 have HS2 : Hid (w0.heap.size <= w2.heap.size) := Lib.hid hb.size
 clear hp hks hkl hpp ho hb HP0 HB0 HTT HK HL
 go_wp2_with fail
 have HVL : Hid (∀ j, Value.ownBlock (.slice VA ks.length vc) = some j -> j < w2.heap.size /\ w0.heap.size <= j) := Lib.hid (fun j hj => ⟨(HO2.out.lt j hj).2, (HO2.out.lt j hj).1⟩)
 go_loopw [6, 21] (fun v i wr => ∃ (k : Nat) (A : Option Addr) (c : Nat) (ns : List (List UInt8)), k <= ks.length /\ i = .int .i64 (k : Int) /\ v = .slice A ns.length c /\ Hid (ns = (ks.take k).filter fun s => decide (T s = id)) /\ Hid (wr.ownsRow w2.heap.size 9 1 (.slice A ns.length c) ns.length (ns.map encStr)) /\ Hid (wr.ownsRow w0.heap.size 9 1 (.slice VA ks.length vc) ks.length (ks.map encStr)) /\ Hid (Below w.heap.size w wr) /\ Hid (Blk wr w.heap.size 102 #[.pointer (some ⟨d, 0, none⟩), .int .i64 id, .int .i64 lim, .int .i64 ret]) /\ Hid (w2.heap.size <= wr.heap.size)) (fun _ i _ => ks.length - (intOf i).toNat)
 case atStart => exact ⟨0, none, 0, [], Nat.zero_le _, rfl, rfl, Lib.hid rfl, Lib.hid (World.ownsRow_nil _ _ _ _), HO2, HB2, HP2, Lib.hid (Nat.le_refl _)⟩
 case round =>
  obtain ⟨k, A, c, ns, hk, rfl, rfl, HNk, HRk, HVk, HBk, HPk, HWk⟩ := hrel
  clear HO2 HB2 HP2
  by_cases hlt : k < ks.length
  ·obtain ⟨s, hs⟩ : ∃ x, ks[k]? = some x := ⟨_, List.getElem?_eq_getElem hlt⟩
   obtain ⟨g, cap, hv, hgl, e0⟩ := own_cell HVk.out (j := k) (u := encStr s) (by simp [hs])
   simp only [Value.slice.injEq, true_and] at hv
   obtain ⟨rfl, rfl⟩ := hv
   obtain ⟨kk, sg, hk1, hk3, hcall⟩ := HKN.out s (List.mem_of_getElem? hs)
   have htk := take_succ_some hs
   have i3 : IntKind.i64.wrap ((k : Int) + 1) = (k : Int) + 1 := by have := HKL.out; rw [IntKind.wrap_i64]; omega
   have HPC := Lib.hid (hcall wr (tab_below HT.out HBk.out) (HM.out.below HBk.out))
   clear hcall
   go_wp2_with fail
   refine HPC.out.mono ?_
   rintro e wp ⟨rfl, hbp⟩
   have HRp := Lib.hid (own_below HRk.out hbp)
   have HVp := Lib.hid (own_below HVk.out hbp)
   have HBp : Hid (Below w.heap.size w wp) := Lib.hid (HBk.out.trans (hbp.mono HBk.out.size))
   have HPp := Lib.hid (HPk.out.below hbp HPk.out.lt)
   have HWp : Hid (w2.heap.size <= wp.heap.size) := Lib.hid (Nat.le_trans HWk.out hbp.size)
   clear e0 hbp HPC HRk HVk HBk HPk HWk
   have c1 : (wp.alloc (.cells #[.int .i64 kk, .int .i64 (T s), .int .i64 sg, .bool false] 94)).cell? ⟨w.heap.size, 1, none⟩ = some (.int .i64 id) := ((HPp.out.alloc _).cell 1).trans rfl
   have k0 : decide (kk = 0) = false := decide_eq_false (by omega)
   have k4 : decide (kk = 4) = false := decide_eq_false (by omega)
   have k0' : (kk != 0) = true := by simp; omega
   have k4' : (kk != 4) = true := by simp; omega
   by_cases hid : T s = id
   ·rw [hid] at c1 ⊢
    have hnl : ns.length <= k := by
     rw [HNk.out]
     refine Nat.le_trans (List.length_filter_le _ _) ?_
     rw [List.length_take]
     omega
    have HMX : Hid (ns.length + 1 <= maxLen) := Lib.hid (by have := HKL.out; unfold maxLen; omega)
    have HLM : Hid ((ns.length + 1) * 16 <= 140737488355328) := Lib.hid (by have := HKL.out; omega)
    have HNE : Hid (ns ++ [s] = (ks.take (k + 1)).filter fun s => decide (T s = id)) := Lib.hid (by rw [htk, List.filter_append, <- HNk.out]; simp [hid])
    have HCA : Hid (∀ (j : Nat) (u : Value), [encStr s][j]? = some u -> ((wp.alloc (.cells #[.int .i64 kk, .int .i64 id, .int .i64 sg, .bool false] 94)).alloc (.cells #[encStr s] 9)).cell? (Addr.add ⟨wp.heap.size + 1, 0, none⟩ j) = some u) := by
     have h := cells_new (wp.alloc (.cells #[.int .i64 kk, .int .i64 id, .int .i64 sg, .bool false] 94)) 9 [encStr s]
     rw [World.size_alloc] at h
     exact Lib.hid h
    have HWA : Hid (w2.heap.size <= ((wp.alloc (.cells #[.int .i64 kk, .int .i64 id, .int .i64 sg, .bool false] 94)).alloc (.cells #[encStr s] 9)).heap.size) := Lib.hid (by have := HWp.out; simp; omega)
    have HRA := Lib.hid ((HRp.out.alloc (.cells #[.int .i64 kk, .int .i64 id, .int .i64 sg, .bool false] 94)).alloc (.cells #[encStr s] 9))
    go_wp2_with (first
     | (at_builtin; go_must (refine wpList_append_own_at _ rfl _ _ 90 rfl w2.heap.size 9 i0 (.string ⟨#[]⟩) 1 16 Tryz.underlying90 hi hz0 hz1 hz2 rfl (by decide) (.slice A ns.length c) ns.length _ rfl HRA.out ⟨wp.heap.size + 1, 0, none⟩ 1 1 [encStr s] rfl rfl HCA.out (by simp [Value.oneCell']) HMX.out HLM.out HWA.out ?_; intro v3 w3 hown3 hgr3 _ hloc3; obtain ⟨A3, c3, rfl⟩ := own_slice hown3; have HO3 := Lib.hid hown3; have HG3 := Lib.hid hgr3; clear hown3 hgr3 hloc3))
     | fail)
    have hW0 := HS0.out
    have hW2 := HS2.out
    have HVA : Hid (((wp.alloc (.cells #[.int .i64 kk, .int .i64 id, .int .i64 sg, .bool false] 94)).alloc (.cells #[encStr s] 9)).ownsRow w0.heap.size 9 1 (.slice (some ⟨g, 0, none⟩) ks.length vc) ks.length (ks.map encStr)) := Lib.hid ((HVp.out.alloc _).alloc _)
    go_roundw
    case rel =>
     refine ⟨k + 1, A3, c3, ns ++ [s], by omega, by go_num, by simp, HNE, by simpa using HO3, Lib.hid (own_keepH HVA.out (fun j hj => HG3.out.block j (HVA.out.lt j hj).2 (fun e => by have h1 := (HRA.out.lt j (by simpa using e.symm)).1; have h2 := (HVL.out j hj).1; omega))), Lib.hid (((HBp.out.alloc HBp.out.size _).alloc (Nat.le_trans HBp.out.size (by simp)) _).grown HG3.out (Nat.le_trans HBp.out.size (by simp; omega)) (fun j hj => by have h1 := (HRA.out.lt j hj).1; omega)), Lib.hid (((HPp.out.alloc _).alloc _).grown HG3.out (fun e => by have h1 := (HRA.out.lt _ e.symm).1; omega)), Lib.hid (Nat.le_trans HWA.out HG3.out.size)⟩
    case measure => simp [intOf]; omega
   ·have t0 : decide (T s = id) = false := decide_eq_false hid
    have t1 : (T s == id) = false := by simpa using hid
    go_wp2_with fail
    have HNE : Hid (ns = (ks.take (k + 1)).filter fun s => decide (T s = id)) := Lib.hid (by rw [htk, List.filter_append, <- HNk.out]; simp [hid])
    go_roundw
    case rel =>
     exact ⟨k + 1, A, c, ns, by omega, by go_num, rfl, HNE, Lib.hid (HRp.out.alloc _), Lib.hid (HVp.out.alloc _), Lib.hid (HBp.out.alloc HBp.out.size _), Lib.hid (HPp.out.alloc _), Lib.hid (Nat.le_trans HWp.out (by simp))⟩
    case measure => simp [intOf]; omega
  ·obtain rfl : k = ks.length := by omega
   go_wp2_with fail
   go_ret2
   rw [List.take_length] at HNk
   exact ⟨A, c, ns, rfl, by rw [HNk.out]; exact HPP.out.filter _, own_less HRk.out (by have := HS0.out; have := HS2.out; omega), HBk.out⟩
end Go.Proofs.YtendlmdmbkcdnaaGreatDoor.tp
namespace Go.Proofs.YtendlmdmbkcdnaaGreatDoor.tp
open Go.RowKit Go.Maps Go.WideMaps oc rc gh dk sg ma hi kd dd
open Go.Lib (hid)
open ri (lnm)
set_option maxRecDepth 100000
theorem remove_none (w : World) (d : Nat) (id lim ret : Int) (A : Option Addr) (c : Nat) :
  Calls Tryz.prog 39 #[.agg (placeC d id lim ret), .slice A 0 c] w fun e w' => e = .returned (.int .i64 0) /\ Below w.heap.size w w' := by
 unfold placeC
 have HBA : Hid (∀ y, Below w.heap.size w (w.alloc y)) := hid (fun y => (Below.refl _ _).alloc (Nat.le_refl _) y)
 go_enter Tryz.func39, Tryz.ntmps39
 go_wp2_with fail
 go_loop [10] (fun x => x = .int .i64 0) (fun _ => 0)
 case atStart => rfl
 case round =>
  subst hrel
  go_wp2_with fail
  go_ret
  exact ⟨rfl, HBA.out _⟩
def MoreOut (w : World) (G : Gh) (τ d i lim ret k : Nat) (q : Int) (fs : List Fil) (no L : Nat) (e : Ending) (w' : World) : Prop :=
 ∃ t G' f f2, e = .returned (.tuple #[.pointer (some ⟨t, 0, none⟩), .int .i64 0]) /\ w.heap.size <= t /\
  TopAt w' G' τ t d (newS i lim ret k) q (⟨Sb (manName i), f2, fNew (manN (newS i lim ret k).man)⟩ :: ⟨Sb (nameN i ((1 : Nat) : Int)), f, fSync (fApp ⟨[], [], []⟩ (headN i 1 0))⟩ :: fs) (no + 8) (L + 6) /\ Fx (CT τ) G G' w w'
set_option maxHeartbeats 8000000 in
theorem tcreate_more (w : World) (G : Gh) (τ d i lim ret k : Nat) (q : Int) (fs : List Fil) (no L : Nat) (hk : DK w G d q fs no L) (hf : Fin G w) (ht : TabG w G) (hmx : MaxLenAt w) (h1 : i < 1073741824) (h2 : 256 <= lim /\ lim <= 65536) (h3 : ret <= 1099511627776) (h4 : k < 1125899906842624) (hno : no + 10 <= 1099511627776) (hL : L + 12 <= 1073741824)
  (T : List UInt8 -> Int) (hT : ∀ f ∈ fs, PName (lnm f) (T (lnm f)) /\ T (lnm f) ≠ (i : Int)) (hlen : fs.length + 1 < 65536) (hnm : ∀ z ∈ fs, z.name ≠ Sb (nameN i ((1 : Nat) : Int)) /\ z.name ≠ Sb (tmpN (manName i)) /\ z.name ≠ Sb (manName i))
  (hq : ((sumF fs + 21 + (manN (newS i lim ret k).man).length : Nat) : Int) <= q) :
  Calls Tryz.prog 8 #[.pointer (some ⟨d, 0, none⟩), .int .i64 (i : Int), .int .i64 (lim : Int), .int .i64 (ret : Int), .int .i64 (k : Int)] w (MoreOut w G τ d i lim ret k q fs no L) := by
 have HFT := hid (fit_ok w d i lim ret k ⟨by omega, by omega⟩ ⟨by omega, by omega⟩ ⟨by omega, by omega⟩ ⟨by omega, by omega⟩)
 have HFR := hid (fresh_any w G τ d i lim ret k hf)
 have HK := hid hk
 have HF := hid hf
 have HT := hid ht
 have HI := hid (And.intro h1 h4)
 have HLM := hid h2
 have HNO := hid hno
 have HLL := hid hL
 have HMX := hid hmx
 have HNT := hid hT
 have HNM := hid hnm
 have HLE := hid hlen
 have HQ := hid hq
 clear hk hf ht h1 h2 h3 h4 hno hL hmx hT hnm hlen hq
 unfold placeC at HFR
 go_enter Tryz.func8, Tryz.ntmps8
 go_wp2_with fail
 refine HFT.out.mono ?_
 rintro e w0 ⟨rfl, rfl⟩
 go_wp2_with fail
 refine HFR.out.mono ?_
 rintro e w1 ⟨t, dr, tb, tm, al, am, td, ch, G1, rfl, ht1, htop, hdir, htab, hall, hch, hb1, hx1, hfn1, how1⟩
 have HTOP := hid htop
 have HDIR := hid hdir
 have HTAB := hid htab
 have HALL := hid hall
 have HCH := hid hch
 have HB1 := hid hb1
 have HBW : Hid (Below w0.heap.size w0 w1) := hid hb1
 have HX1 := hid hx1
 have HFN1 := hid hfn1
 have HTL : Hid (w0.heap.size <= t) := hid ht1
 have HK1 : Hid (DK w1 G1 d q fs no L) := hid (HK.out.keep hx1 (fun _ _ h => h.elim) (fun j hj => by rw [how1]; exact HF.out.ow j hj))
 have HT1 : Hid (TabG w1 G1) := hid (HT.out.keep hx1 (fun h => h))
 clear HFT HFR ht1 htop hdir htab hall hch hb1 hx1 hfn1 how1
 have kt : ∀ W, Below w1.heap.size w1 W -> BlkR W G1 t 110 (tc0 d i lim ret k dr tb al td ch).cells (some (τ, .top)) := fun W hb => HTOP.out.keep (C := CN) (Fx.below hb) (fun h => h)
 have KTT := hid kt
 have f0 : w1.cell? ⟨t, 0, none⟩ = some (.pointer (some ⟨d, 0, none⟩)) := (HTOP.out.cell 0).trans rfl
 have f1 : w1.cell? ⟨t, 1, none⟩ = some (.int .i64 (i : Int)) := (HTOP.out.cell 1).trans rfl
 have f2 : w1.cell? ⟨t, 2, none⟩ = some (.int .i64 (lim : Int)) := (HTOP.out.cell 2).trans rfl
 have f3 : w1.cell? ⟨t, 3, none⟩ = some (.int .i64 (ret : Int)) := (HTOP.out.cell 3).trans rfl
 clear kt
 go_wp2_with fail
 refine (files_any w1 G1 d q fs no L HK1.out (by have := HLE.out; omega) HT1.out.1 (HMX.out.below HBW.out) T (fun f hf => (HNT.out f hf).1) i lim ret).mono ?_
 rintro e w2 ⟨A0, k0, ns0, rfl, hns, -, hb2⟩
 have hns0 : ns0 = [] := by
  have e0 : (fs.map lnm).filter (fun s => decide (T s = (i : Int))) = [] := by
   rw [List.filter_eq_nil_iff]
   intro s hs
   obtain ⟨f, hf, rfl⟩ := List.mem_map.1 hs
   simpa using (HNT.out f hf).2
  rw [e0] at hns
  exact hns.eq_nil
 subst hns0
 clear hns
 have HB2 : Hid (Below w1.heap.size w1 w2) := hid hb2
 clear f0 f1 f2 f3 hb2
 have f0 : w2.cell? ⟨t, 0, none⟩ = some (.pointer (some ⟨d, 0, none⟩)) := ((KTT.out w2 HB2.out).cell 0).trans rfl
 have f1 : w2.cell? ⟨t, 1, none⟩ = some (.int .i64 (i : Int)) := ((KTT.out w2 HB2.out).cell 1).trans rfl
 have f2 : w2.cell? ⟨t, 2, none⟩ = some (.int .i64 (lim : Int)) := ((KTT.out w2 HB2.out).cell 2).trans rfl
 have f3 : w2.cell? ⟨t, 3, none⟩ = some (.int .i64 (ret : Int)) := ((KTT.out w2 HB2.out).cell 3).trans rfl
 go_wp2_with fail
 refine (remove_none w2 d i lim ret A0 k0).mono ?_
 rintro e w3 ⟨rfl, hb3⟩
 have HB3 : Hid (Below w1.heap.size w1 w3) := hid (HB2.out.trans (hb3.mono HB2.out.size))
 clear f0 f1 f2 f3 hb3
 have HK3 := hid (HK1.out.below HB3.out)
 have HFN3 : Hid (Fin G1 w3) := hid (HFN1.out.more HB3.out.size)
 have HT3 := hid (HT1.out.below HB3.out)
 have HTP3 := hid (KTT.out w3 HB3.out)
 have HTB3 := hid (HTAB.out.keep (C := CN) (Fx.below HB3.out) (fun h => h) (fun h => h))
 go_wp2_with fail
 refine (extend_any w3 G1 τ t (tc0 d i lim ret k dr tb al td ch) i 1 0 k lim q fs fs no L tm 0 (.map []) 0 (.map []) ?_).mono ?_
 ·exact { top := HTP3.out, eid := rfl, elim := rfl, enext := rfl, eclock := rfl, enseg := rfl, i1 := HI.out.1, ns1 := (by decide), en1 := (by decide), lim0 := HLM.out.1, lim1 := HLM.out.2, segs := fun h => absurd h (Nat.lt_irrefl _), cold := fun p hp => (by cases hp), segsl := Nat.zero_le _, tab := HTB3.out, tabok := tabok0 _, cached := HCH.out.keep (C := CN) (Fx.below HB3.out) (fun h => h), cnl := Nat.zero_le _, dk := HK3.out, fin := HFN3.out, tg := HT3.out, no1 := (by have := HNO.out; omega), L1 := (by have := HLL.out; omega), len := HLE.out, nm := fun z hz => (HNM.out z hz).1, ntmp := fun z hz => (HNM.out z hz).2.1, man := Or.inl ⟨rfl, fun z hz => (HNM.out z hz).2.2⟩, ok := fun ps hps _ => (by rw [prods0 hps]; exact manok0 HI.out.1 HI.out.2), room := fun ps hps _ => by rw [prods0 hps]; exact HQ.out }
 rintro e w4 ⟨G', g, A, c1, B, c2, ps, f, f2, rfl, hps, hpl, ht4, hi4, hci4, hp4, hcp4, hs4, hm4, hk4, hx4, hfn4⟩
 have hps0 := prods0 hps
 subst hps0
 have HFIN : Hid (MoreOut w0 G τ d i lim ret k q fs no L (.returned (.tuple #[.pointer (some ⟨t, 0, none⟩), .int .i64 0])) w4) := hid (by
  refine ⟨t, G', f, f2, rfl, HTL.out, ⟨⟨{ tc0 d i lim ret k dr tb al td ch with man := nextMan i 2 0 k man0 1 [], sA := A, sc := c1, pA := B, pc := c2, seg := some ⟨g, 0, none⟩, nextSeg := ((2 : Nat) : Int) }, g, tm, 0, am, 0, 1, (DataW.map []).put (.int .i64 ((1 : Nat) : Int)) .nil⟩, ?_⟩, ?_⟩
  ·exact
   {top := ht4
    ed := rfl
    eid := rfl
    elim := rfl
    eret := rfl
    eman := rfl
    eseg := rfl
    ewn := rfl
    enext := rfl
    eclock := rfl
    enseg := rfl
    egone := rfl
    segs := hi4
    cold := hci4
    seg := by rw [newS_seg]; exact hs4
    dir := (HDIR.out.keep (C := CN) (Fx.below HB3.out) (fun h => h) (fun h => h)).keep hx4 (cx_no (by simp) (by simp)) cx_none
    tab := HTB3.out.keep hx4 (cx_no (by simp) (by simp)) (cx_no (by simp) (by simp))
    all := (HALL.out.keep (C := CN) (Fx.below HB3.out) (fun h => h) (fun h => h)).keep hx4 (cx_no (by simp) (by simp)) (cx_no (by simp) (by simp))
    waits := ⟨World.ownsRow_nil _ _ _ _, fun b hb => by cases hb⟩
    cached := hm4
    rows := fun s rl hm => by
     obtain ⟨rfl, rfl⟩ : s = 1 /\ rl = [] := by simpa [TS.rows, newS] using hm
     exact ⟨none, none, 0, rfl, atKey_put_same isMap_empty isKeyLit_int _ _, World.ownsRow_nil _ _ _ _, fun b hb => by cases hb⟩
    dk := hk4
    fin := hfn4
    tg := HT3.out.keep hx4 cx_none
    cn1 := Nat.le_refl _
    an1 := Nat.zero_le _
    tnm := fun e => by
     have e1 := HALL.out.2.1.2
     have e2 := HALL.out.2.2.2
     have e3 : al = am := e
     rw [e3, e2] at e1
     simp at e1 }
  ·exact ((HX1.out.mono ct_n).trans (Fx.below HB3.out)).trans (hx4.mono cx_ct))
 clear hps hpl ht4 hi4 hci4 hp4 hcp4 hs4 hm4 hk4 hx4 hfn4
 go_wp2_with fail
 go_ret2
 exact HFIN.out
end Go.Proofs.YtendlmdmbkcdnaaGreatDoor.tp
