/-
  Texts of the proof joined by a program: Sqh Ocg Sqi Sqj Sqk Rca.
-/
import Derived.Test.YtendlmdmbkcdnaaGreatDoorVd
import Derived.Test.YtendlmdmbkcdnaaGreatDoorVa
set_option linter.unusedSimpArgs false
set_option linter.unusedVariables false
namespace Go.Proofs.YtendlmdmbkcdnaaGreatDoor.sq
open Go.RowKit oc
open Go.Lib (hid)
set_option maxRecDepth 100000
def zF : Fi := ⟨fun _ => 0, fun _ => 0⟩
theorem zF_inv : Inv zF 0 := ⟨fun _ => Nat.le_refl _, fun _ => Nat.zero_le _⟩
theorem zcells : (Tryz.zeroCells401.toList.length, zeros (Tryz.zeroCells401.toList.drop 1)) = (5121, true) := by kernel_rfl
theorem fin_zero (w : World) (A : Option Addr) (c : Nat) (T : List UInt8) : FinAt (w.alloc (.cells (Tryz.zeroCells401.setIfInBounds 0 (.slice A T.length c)) 401)) w.heap.size A c T zF := by
 have h := zcells
 simp only [Prod.mk.injEq] at h
 obtain ⟨h1, h2⟩ := h
 have hs : Tryz.zeroCells401.size = 5121 := by simp
 have h3 : ∀ k, 1 <= k -> k < 5121 -> (Tryz.zeroCells401.setIfInBounds 0 (.slice A T.length c))[k]? = some (.int .i64 0) := fun k hk1 hk2 => by
  rw [Array.getElem?_setIfInBounds, if_neg (by omega)]
  have := zeros_at _ (k - 1) h2 (by rw [List.length_drop]; omega)
  rw [List.getElem?_drop, show 1 + (k - 1) = k by omega] at this
  rw [<- Array.getElem?_toList]
  exact this
 exact fin_new w _ A c T (by rw [Array.size_setIfInBounds]; exact hs) (by rw [Array.getElem?_setIfInBounds, if_pos rfl, if_pos (by omega)]) h3
set_option maxHeartbeats 8000000 in
theorem tokens_any (w : World) (A : Option Addr) (c : Nat) (T : List UInt8) (hR : RB w A T) (hc : T.length <= c) (hT : T.length <= 4096) :
  Calls Tryz.prog 259 #[.slice A T.length c] w fun e w' => ∃ v, e = .returned (.tuple #[v, .int .i64 0]) /\ Row (w.heap.size + 1) w' v (tokens T) /\ Below w.heap.size w w' := by
 obtain ⟨iT, hiT, hzT0, hzT1, hzT2⟩ := info_parts infoT
 have hfin := fin_zero w A c T
 have g1 : decide ((4096 : Int) < (T.length : Int)) = false := decide_eq_false (by omega)
 have hb0 : Below w.heap.size w (w.alloc (.cells (Tryz.zeroCells401.setIfInBounds 0 (.slice A T.length c)) 401)) := (Below.refl _ _).alloc (Nat.le_refl _) _
 have hsz : (w.alloc (.cells (Tryz.zeroCells401.setIfInBounds 0 (.slice A T.length c)) 401)).heap.size = w.heap.size + 1 := by simp
 have HR := hid hR
 have HC := hid hc
 have HT := hid hT
 clear hR hc hT
 go_enter Tryz.func259, Tryz.ntmps259
 go_wp2_with fail
 generalize World.alloc w _ = w0 at *
 have HF0 := hid hfin
 have HB0 := hid hb0
 have HSZ := hid hsz
 clear hfin hb0 hsz
 go_loopw [5, 6, 7] (fun v x y wr => ∃ (F : Fi) (begun p k : Nat) (tks : List Tok), x = .int .i64 (begun : Int) /\ y = .int .i64 (p : Int) /\ begun <= p /\ p <= T.length /\ Hid (FinAt wr w.heap.size A c T F) /\ Hid (Inv F p) /\ Hid (Row (w.heap.size + 1) wr v tks) /\
   Hid (tokens T = tks ++ toks T k F begun p) /\ Hid (T.length + 1 <= k + p /\ tks.length <= begun) /\ Hid (Below w.heap.size w wr /\ w.heap.size + 1 <= wr.heap.size)) (fun _ _ y _ => T.length - (intOf y).toNat)
 case atStart => exact ⟨zF, 0, 0, T.length + 1, [], rfl, rfl, Nat.le_refl _, Nat.zero_le _, HF0, hid zF_inv, hid (Row.nil _ _), hid (by simp [tokens, zF]), hid ⟨by omega, Nat.le_refl _⟩, hid ⟨HB0.out, by rw [HSZ.out]; exact Nat.le_refl _⟩⟩
 case round =>
  obtain ⟨F, begun, p, k, tks, rfl, rfl, hbp, hpT, HF, HI, HRow, HTk, HK, HB⟩ := hrel
  clear HF0 HB0 HSZ
  by_cases hp : p < T.length
  ·have g2 : decide ((p : Int) < (T.length : Int)) = true := decide_eq_true (by omega)
   have hm := match_any wr w.heap.size A c T F HF.out (HR.out.below HB.out.1) HC.out HT.out p hpT HI.out
   have hg := match_good T F p hpT HI.out
   rcases hmn : matchN T F p with ⟨d, m⟩
   rw [hmn] at hm hg
   have HM := hid hm
   have HG : Hid (m = 0 /\ d = 0 \/ 5 <= m /\ m <= 258 /\ 1 <= d /\ d <= 2048 /\ d <= p /\ p + m <= T.length) := hid hg
   have HMN := hid hmn
   obtain ⟨k', rfl⟩ : ∃ k', k = k' + 1 := ⟨k - 1, by have := HK.out.1; omega⟩
   clear hm hg hmn
   by_cases hm0 : m = 0
   ·have HT' : Hid (toks T (k' + 1) F begun p = toks T k' (passN T F p) begun (p + 1)) := hid (by
     rw [toks, if_pos hp, HMN.out, if_pos hm0])
    have e1 : IntKind.i64.wrap ((p : Int) + 1) = (p : Int) + 1 := by have := HT.out; rw [IntKind.wrap_i64]; omega
    subst hm0
    go_wp2_with (first
     | (go_at_call 289; refine HM.out.mono ?_; rintro e w1 ⟨rfl, hb1⟩; have HB1 := hid hb1; clear hb1)
     | ((with_reducible refine at_op ⟨_, .store 373 (.tmp 8) (.tmp 21), _, _, _, _⟩ ?_); refine wpList_store_blk rfl 373 (.tmp 8) (.tmp 21) rfl w1.heap.size 0 rfl (tokC d 0).toList rfl (by intro u hu; simp [tokC] at hu; rcases hu with rfl | rfl | rfl <;> rfl) 373 _ (Blk.new w1 _ _) (by simp [tokC]) (by kernel_rfl) ?_; intro w2 hT2 hg2 hs2; rw [put_all _ _ (by simp [tokC])] at hT2; have HT2 : Hid (Blk w2 w1.heap.size 373 (tokC d 0)) := hT2; have HW2 : Hid (Below wr.heap.size wr w2) := hid (below_gb ((HB1.out.alloc HB1.out.size _)) hg2 (by have := HB1.out.size; simp; omega) HB1.out.size); have cm : w2.cell? ⟨w1.heap.size, 2, none⟩ = some (.int .i64 0) := (HT2.out.cell 2).trans rfl; have HP2 := hid (passes_any w2 w.heap.size A c T F (HF.out.below HW2.out) ((HR.out.below HB.out.1).below HW2.out) HC.out HT.out p hpT); clear hT2 hg2 hs2)
     | (go_at_call 290; refine HP2.out.mono ?_; rintro e w3 ⟨rfl, hF3, hG3⟩; have HF3 := hid hF3; have HG3 := hid hG3; clear hF3 hG3 cm)
     | fail)
    go_roundw
    case rel => exact ⟨passN T F p, begun, p + 1, k', tks, rfl, by go_num, by omega, by omega, HF3, hid HI.out.pass, hid ((HRow.out.below HW2.out).gb HG3.out (Nat.lt_succ_self _)), hid (by rw [HTk.out, HT'.out]), hid ⟨by have := HK.out.1; omega, HK.out.2⟩, hid ⟨below_gb (HB.out.1.trans (HW2.out.mono (by have := HB.out.2; omega))) HG3.out (by have := HB.out.2; have := HW2.out.size; omega) (Nat.le_refl _), Nat.le_trans HB.out.2 (Nat.le_trans HW2.out.size HG3.out.size)⟩⟩
    case measure => simp [intOf]; omega
   ·have HG2 : Hid (5 <= m /\ m <= 258 /\ 1 <= d /\ d <= 2048 /\ d <= p /\ p + m <= T.length) := hid (HG.out.resolve_left (fun h => hm0 h.1))
    have gm : ((m : Int) == 0) = false := by simp; omega
    obtain ⟨b, off, rfl, hbl, hcell⟩ := rb_cell (HR.out) (by omega)
    clear hcell hbl
    have HV : Hid (∀ g, u5.ownBlock = some g -> g < wr.heap.size) := hid (fun g e => by obtain ⟨xs, hx, _⟩ := HRow.out; exact (hx.lt g e).2)
    have hlen : ((T.drop begun).take (p - begun)).length = p - begun := by rw [List.length_take, List.length_drop]; omega
    by_cases hbp2 : begun < p
    ·have gb : decide ((begun : Int) < (p : Int)) = true := decide_eq_true (by omega)
     have gc1 : ¬ (c = begun) := by have := HC.out; omega
     have gc2 : (p : Int) <= (c : Int) := by have := HC.out; omega
     have gc3 : (begun : Int) <= (p : Int) := by omega
     go_wp2_with (first
      | (go_at_call 289; refine HM.out.mono ?_; rintro e w1 ⟨rfl, hb1⟩; have HB1 := hid hb1; clear hb1)
      | ((with_reducible refine at_op ⟨_, .store 373 (.tmp 8) (.tmp 21), _, _, _, _⟩ ?_); refine wpList_store_blk rfl 373 (.tmp 8) (.tmp 21) rfl w1.heap.size 0 rfl (tokC d m).toList rfl (by intro u hu; simp [tokC] at hu; rcases hu with rfl | rfl | rfl <;> rfl) 373 _ (Blk.new w1 _ _) (by simp [tokC]) (by kernel_rfl) ?_; intro w2 hT2 hg2 hs2; rw [put_all _ _ (by simp [tokC])] at hT2; have HT2 : Hid (Blk w2 w1.heap.size 373 (tokC d m)) := hT2; have HW2 : Hid (Below wr.heap.size wr w2) := hid (below_gb ((HB1.out.alloc HB1.out.size _)) hg2 (by have := HB1.out.size; simp; omega) HB1.out.size); have cm : w2.cell? ⟨w1.heap.size, 2, none⟩ = some (.int .i64 (m : Int)) := (HT2.out.cell 2).trans rfl; have HL0 := literal_any w2 (some ⟨b, off + begun, none⟩) (c - begun) ((T.drop begun).take (p - begun)) (by rw [hlen]; omega) (by rw [hlen]; have := HT.out; omega) (rb_sub ((HR.out.below HB.out.1).below HW2.out) begun (p - begun)); rw [hlen] at HL0; have HL := hid HL0; clear HL0; clear hT2 hg2 hs2)
      | (go_at_call 291; refine HL.out.mono ?_; rintro e w4 ⟨A4, c4, rfl, ho4, hb4⟩; have HO4 := hid ho4; have HB4 : Hid (Below w2.heap.size w2 w4) := hid hb4; clear ho4 hb4; have hrow4 := (HRow.out.below HW2.out).below HB4.out; obtain ⟨xs, hx1, hx2⟩ := hrow4; have HX1 := hid (hx1.alloc (.cells #[.slice A4 (p - begun) c4, .int .i64 0, .int .i64 0] 373)); have HX2 := hid (hx2.keep (w' := w4.alloc (.cells #[.slice A4 (p - begun) c4, .int .i64 0, .int .i64 0] 373)) (fun g _ hlt _ => Below.heap_alloc _ _ _ hlt)); clear hx1 hx2)
      | ((with_reducible refine at_op ⟨_, .call { callee := .builtin .append, args := #[.tmp 33, .tmp 39], argTypes := _ }, _, _, _, _⟩ ?_); go_must (refine wpList_append_any _ rfl _ _ 330 rfl (w.heap.size + 1) 373 iT (.agg #[.slice none 0 0, .int .i64 0, .int .i64 0]) 3 40 Tryz.underlying330 hiT hzT0 hzT1 hzT2 rfl (by decide) _ tks.length xs rfl HX1.out _ (some ⟨w4.heap.size, 0, none⟩) 1 1 [.slice A4 (p - begun) c4, .int .i64 0, .int .i64 0] rfl (reads3 (Blk.new w4 _ _)) (by intro u hu; simp at hu; rcases hu with rfl | rfl | rfl <;> rfl) (by have := HK.out.2; have := HT.out; unfold maxLen; omega) (by have := HK.out.2; have := HT.out; omega) (by have := HB.out.2; have := HW2.out.size; have := HB4.out.size; simp; omega) ?_; intro v5 w5 ho5 hg5 hd5; have HP5 := hid (pushes (B0 := w.heap.size) (Nat.le_succ _) (w := w) (t := .lit ((T.drop begun).take (p - begun))) ⟨((HB.out.1.trans (HW2.out.mono (by have := HB.out.2; omega))).trans (HB4.out.mono (by have := HB.out.2; have := HW2.out.size; omega))).alloc (by have := HB.out.2; have := HW2.out.size; have := HB4.out.size; omega) _, by have := HB.out.2; have := HW2.out.size; have := HB4.out.size; simp; omega⟩ (((HF.out.below HW2.out).below HB4.out).below ((Below.refl _ _).alloc (Nat.le_refl _) _)) (Nat.lt_succ_self _) (((HT2.out.below HB4.out HT2.out.lt).alloc _)) (fun g e => by have := HV.out g e; have := HB1.out.size; omega) HX1.out HX2.out ⟨A4, c4, by rw [hlen], by rw [hlen]; exact own_less ((HO4.out).alloc _) (by have := HB.out.2; have := HW2.out.size; omega)⟩ ho5 hg5 hd5); clear ho5 hg5 hd5; have cm5 : w5.cell? ⟨w1.heap.size, 2, none⟩ = some (.int .i64 (m : Int)) := (HP5.out.2.2.1.cell 2).trans rfl; clear cm; obtain ⟨ys, hy1, hy2⟩ := HP5.out.1; have HY1 := hid (hy1.alloc (.cells #[.slice none 0 0, .int .i64 (d : Int), .int .i64 (m : Int)] 373)); have HY2 := hid (hy2.keep (w' := w5.alloc (.cells #[.slice none 0 0, .int .i64 (d : Int), .int .i64 (m : Int)] 373)) (fun g _ hlt _ => Below.heap_alloc _ _ _ hlt)); clear hy1 hy2))
      | ((with_reducible refine at_op ⟨_, .load 373 (.tmp 8), _, _, _, _⟩ ?_); refine wpList_load_list rfl 373 (.tmp 8) rfl ⟨w1.heap.size, 0, none⟩ rfl [.slice none 0 0, .int .i64 (d : Int), .int .i64 (m : Int)] (fun j v hv => by rw [add_flat, Nat.zero_add, HP5.out.2.2.1.cell, <- Array.getElem?_toList]; exact hv) _ Tryz.underlying373 rfl (by kernel_rfl) ?_)
      | ((with_reducible refine at_op ⟨_, .call { callee := .builtin .append, args := #[.tmp 41, .tmp 43], argTypes := _ }, _, _, _, _⟩ ?_); go_must (refine wpList_append_any _ rfl _ _ 330 rfl (w.heap.size + 1) 373 iT (.agg #[.slice none 0 0, .int .i64 0, .int .i64 0]) 3 40 Tryz.underlying330 hiT hzT0 hzT1 hzT2 rfl (by decide) _ (tks ++ [Tok.lit ((T.drop begun).take (p - begun))]).length _ rfl HY1.out _ (some ⟨w5.heap.size, 0, none⟩) 1 1 [.slice none 0 0, .int .i64 (d : Int), .int .i64 (m : Int)] rfl (reads3 (Blk.new w5 _ _)) (by intro u hu; simp at hu; rcases hu with rfl | rfl | rfl <;> rfl) (by have := HK.out.2; have := HT.out; unfold maxLen; rw [List.length_append]; simp; omega) (by have := HK.out.2; have := HT.out; rw [List.length_append]; simp; omega) (by have := HP5.out.2.2.2.1.2; simp; omega) ?_; intro v6 w6 ho6 hg6 hd6; have HP6 := hid (pushes (B0 := w.heap.size) (Nat.le_succ _) (w := w) (t := .mat d m) ⟨HP5.out.2.2.2.1.1.alloc (by have := HP5.out.2.2.2.1.2; omega) _, by have := HP5.out.2.2.2.1.2; simp; omega⟩ (HP5.out.2.1.below ((Below.refl _ _).alloc (Nat.le_refl _) _)) (Nat.lt_succ_self _) (HP5.out.2.2.1.alloc _) HP5.out.2.2.2.2 HY1.out HY2.out rfl ho6 hg6 hd6); clear ho6 hg6 hd6; have cm6 : w6.cell? ⟨w1.heap.size, 2, none⟩ = some (.int .i64 (m : Int)) := (HP6.out.2.2.1.cell 2).trans rfl; clear cm5))
      | fail)
     have HF6 : Hid (FinAt w6 w.heap.size (some ⟨b, off, none⟩) c T (passes T F p 0)) := hid HP6.out.2.1
     have HR6 := hid HP6.out.1
     have HB6 := hid HP6.out.2.2.2.1
     have HT' : Hid (toks T (k' + 1) F begun p = [Tok.lit ((T.drop begun).take (p - begun))] ++ Tok.mat d m :: toks T k' (passes T F p m) (p + m) (p + m)) := hid (by
      rw [toks, if_pos hp, HMN.out, if_neg hm0, if_pos hbp2])
     clear HP6 HP5 HY1 HY2 HX1 HX2 HO4 HB4 HL HT2 HW2 HB1 HM cm6 HRow HB HF HMN HG HV hlen gb gc1 gc2 gc3 gm g2 hzT0 hzT1 hzT2 hiT
     go_loopw [7, 47] (fun y z wr2 => ∃ j : Nat, j <= m /\ y = .int .i64 ((p + j : Nat) : Int) /\ z = .int .i64 (j : Int) /\ Hid (FinAt wr2 w.heap.size (some ⟨b, off, none⟩) c T (passes T F p j)) /\ Hid (Row (w.heap.size + 1) wr2 v6 ((tks ++ [Tok.lit ((T.drop begun).take (p - begun))]) ++ [Tok.mat d m])) /\ Hid (Below w.heap.size w wr2 /\ w.heap.size + 1 <= wr2.heap.size)) (fun _ z _ => m - (intOf z).toNat)
     case atStart => exact ⟨0, Nat.zero_le _, rfl, rfl, HF6, HR6, HB6⟩
     case round =>
      obtain ⟨j, hj, rfl, rfl, HFj, HRj, HBj⟩ := hrel
      by_cases hjm : j < m
      ·have gj : decide ((j : Int) < (m : Int)) = true := decide_eq_true (by omega)
       have e7 : IntKind.i64.wrap (((p + j : Nat) : Int) + 1) = ((p + (j + 1) : Nat) : Int) := by have := HG2.out; have := HT.out; rw [IntKind.wrap_i64]; omega
       have e8 : IntKind.i64.wrap ((j : Int) + 1) = (j : Int) + 1 := by have := HG2.out; rw [IntKind.wrap_i64]; omega
       have e9 : p + j + 1 <= 5000 := by have := HG2.out; have := HT.out; omega
       have HPj := hid (passes_any _ w.heap.size (some ⟨b, off, none⟩) c T (passes T F p j) HFj.out (HR.out.below HBj.out.1) HC.out HT.out (p + j) (by have := HG2.out; omega))
       go_wp2_with (first | (go_at_call 290; refine HPj.out.mono ?_; rintro e w8 ⟨rfl, hF8, hG8⟩; have HF8 := hid hF8; have HG8 := hid hG8; clear hF8 hG8) | fail)
       go_roundw
       case rel => exact ⟨j + 1, by omega, (by have hh := e9; go_num), by go_num, HF8, hid (HRj.out.gb HG8.out (Nat.lt_succ_self _)), hid ⟨below_gb HBj.out.1 HG8.out (by have := HBj.out.2; omega) (Nat.le_refl _), Nat.le_trans HBj.out.2 HG8.out.size⟩⟩
       case measure => simp [intOf]; omega
      ·obtain rfl : m = j := by omega
       have gj : decide ((m : Int) < (m : Int)) = false := decide_eq_false (by omega)
       go_wp2_with fail
       go_roundw
       case rel => exact ⟨passes T F p m, p + m, p + m, k', ((tks ++ [Tok.lit ((T.drop begun).take (p - begun))]) ++ [Tok.mat d m]), rfl, rfl, Nat.le_refl _, HG2.out.2.2.2.2.2, HFj, hid (HI.out.passes m), HRj, hid (by rw [HTk.out, HT'.out]; simp), hid ⟨by have := HK.out.1; have := HG2.out; omega, by have := HK.out.2; have := HG2.out; rw [List.length_append, List.length_append]; simp; omega⟩, HBj⟩
       case measure => have := HG2.out; simp [intOf]; omega
    ·have gb : decide ((begun : Int) < (p : Int)) = false := decide_eq_false (by omega)
     go_wp2_with (first
      | (go_at_call 289; refine HM.out.mono ?_; rintro e w1 ⟨rfl, hb1⟩; have HB1 := hid hb1; clear hb1)
      | ((with_reducible refine at_op ⟨_, .store 373 (.tmp 8) (.tmp 21), _, _, _, _⟩ ?_); refine wpList_store_blk rfl 373 (.tmp 8) (.tmp 21) rfl w1.heap.size 0 rfl (tokC d m).toList rfl (by intro u hu; simp [tokC] at hu; rcases hu with rfl | rfl | rfl <;> rfl) 373 _ (Blk.new w1 _ _) (by simp [tokC]) (by kernel_rfl) ?_; intro w2 hT2 hg2 hs2; rw [put_all _ _ (by simp [tokC])] at hT2; have HT2 : Hid (Blk w2 w1.heap.size 373 (tokC d m)) := hT2; have HW2 : Hid (Below wr.heap.size wr w2) := hid (below_gb ((HB1.out.alloc HB1.out.size _)) hg2 (by have := HB1.out.size; simp; omega) HB1.out.size); have cm : w2.cell? ⟨w1.heap.size, 2, none⟩ = some (.int .i64 (m : Int)) := (HT2.out.cell 2).trans rfl; have hrow2 := HRow.out.below HW2.out; obtain ⟨ys, hy1, hy2⟩ := hrow2; have HY1 := hid (hy1.alloc (.cells #[.slice none 0 0, .int .i64 (d : Int), .int .i64 (m : Int)] 373)); have HY2 := hid (hy2.keep (w' := w2.alloc (.cells #[.slice none 0 0, .int .i64 (d : Int), .int .i64 (m : Int)] 373)) (fun g _ hlt _ => Below.heap_alloc _ _ _ hlt)); have HBX : Hid (Below w.heap.size w w2 /\ w.heap.size + 1 <= w2.heap.size) := hid ⟨HB.out.1.trans (HW2.out.mono (by have := HB.out.2; omega)), Nat.le_trans HB.out.2 HW2.out.size⟩; clear hy1 hy2; clear hT2 hg2 hs2)
      | ((with_reducible refine at_op ⟨_, .load 373 (.tmp 8), _, _, _, _⟩ ?_); refine wpList_load_list rfl 373 (.tmp 8) rfl ⟨w1.heap.size, 0, none⟩ rfl [.slice none 0 0, .int .i64 (d : Int), .int .i64 (m : Int)] (fun j v hv => by rw [add_flat, Nat.zero_add, HT2.out.cell, <- Array.getElem?_toList]; exact hv) _ Tryz.underlying373 rfl (by kernel_rfl) ?_)
      | ((with_reducible refine at_op ⟨_, .call { callee := .builtin .append, args := #[.tmp 41, .tmp 43], argTypes := _ }, _, _, _, _⟩ ?_); go_must (refine wpList_append_any _ rfl _ _ 330 rfl (w.heap.size + 1) 373 iT (.agg #[.slice none 0 0, .int .i64 0, .int .i64 0]) 3 40 Tryz.underlying330 hiT hzT0 hzT1 hzT2 rfl (by decide) _ tks.length _ rfl HY1.out _ (some ⟨w2.heap.size, 0, none⟩) 1 1 [.slice none 0 0, .int .i64 (d : Int), .int .i64 (m : Int)] rfl (reads3 (Blk.new w2 _ _)) (by intro u hu; simp at hu; rcases hu with rfl | rfl | rfl <;> rfl) (by have := HK.out.2; have := HT.out; unfold maxLen; omega) (by have := HK.out.2; have := HT.out; omega) (by have := HBX.out.2; simp; omega) ?_; intro v6 w6 ho6 hg6 hd6; have HP6 := hid (pushes (B0 := w.heap.size) (Nat.le_succ _) (w := w) (t := .mat d m) ⟨HBX.out.1.alloc (by have := HBX.out.2; omega) _, by have := HBX.out.2; simp; omega⟩ ((HF.out.below HW2.out).below ((Below.refl _ _).alloc (Nat.le_refl _) _)) (Nat.lt_succ_self _) (HT2.out.alloc _) (fun g e => by have := HV.out g e; have := HB1.out.size; omega) HY1.out HY2.out rfl ho6 hg6 hd6); clear ho6 hg6 hd6; have cm6 : w6.cell? ⟨w1.heap.size, 2, none⟩ = some (.int .i64 (m : Int)) := (HP6.out.2.2.1.cell 2).trans rfl; clear cm))
      | fail)
     have HF6 : Hid (FinAt w6 w.heap.size (some ⟨b, off, none⟩) c T (passes T F p 0)) := hid HP6.out.2.1
     have HR6 := hid HP6.out.1
     have HB6 := hid HP6.out.2.2.2.1
     have HT' : Hid (toks T (k' + 1) F begun p = Tok.mat d m :: toks T k' (passes T F p m) (p + m) (p + m)) := hid (by
      rw [toks, if_pos hp, HMN.out, if_neg hm0, if_neg hbp2]; rfl)
     clear HP6 HY1 HY2 HT2 HW2 HB1 HM cm6 HRow HB HF HMN HG HV hlen gb gm g2 hzT0 hzT1 hzT2 hiT HBX
     go_loopw [7, 47] (fun y z wr2 => ∃ j : Nat, j <= m /\ y = .int .i64 ((p + j : Nat) : Int) /\ z = .int .i64 (j : Int) /\ Hid (FinAt wr2 w.heap.size (some ⟨b, off, none⟩) c T (passes T F p j)) /\ Hid (Row (w.heap.size + 1) wr2 v6 (tks ++ [Tok.mat d m])) /\ Hid (Below w.heap.size w wr2 /\ w.heap.size + 1 <= wr2.heap.size)) (fun _ z _ => m - (intOf z).toNat)
     case atStart => exact ⟨0, Nat.zero_le _, rfl, rfl, HF6, HR6, HB6⟩
     case round =>
      obtain ⟨j, hj, rfl, rfl, HFj, HRj, HBj⟩ := hrel
      by_cases hjm : j < m
      ·have gj : decide ((j : Int) < (m : Int)) = true := decide_eq_true (by omega)
       have e7 : IntKind.i64.wrap (((p + j : Nat) : Int) + 1) = ((p + (j + 1) : Nat) : Int) := by have := HG2.out; have := HT.out; rw [IntKind.wrap_i64]; omega
       have e8 : IntKind.i64.wrap ((j : Int) + 1) = (j : Int) + 1 := by have := HG2.out; rw [IntKind.wrap_i64]; omega
       have e9 : p + j + 1 <= 5000 := by have := HG2.out; have := HT.out; omega
       have HPj := hid (passes_any _ w.heap.size (some ⟨b, off, none⟩) c T (passes T F p j) HFj.out (HR.out.below HBj.out.1) HC.out HT.out (p + j) (by have := HG2.out; omega))
       go_wp2_with (first | (go_at_call 290; refine HPj.out.mono ?_; rintro e w8 ⟨rfl, hF8, hG8⟩; have HF8 := hid hF8; have HG8 := hid hG8; clear hF8 hG8) | fail)
       go_roundw
       case rel => exact ⟨j + 1, by omega, (by have hh := e9; go_num), by go_num, HF8, hid (HRj.out.gb HG8.out (Nat.lt_succ_self _)), hid ⟨below_gb HBj.out.1 HG8.out (by have := HBj.out.2; omega) (Nat.le_refl _), Nat.le_trans HBj.out.2 HG8.out.size⟩⟩
       case measure => simp [intOf]; omega
      ·obtain rfl : m = j := by omega
       have gj : decide ((m : Int) < (m : Int)) = false := decide_eq_false (by omega)
       go_wp2_with fail
       go_roundw
       case rel => exact ⟨passes T F p m, p + m, p + m, k', (tks ++ [Tok.mat d m]), rfl, rfl, Nat.le_refl _, HG2.out.2.2.2.2.2, HFj, hid (HI.out.passes m), HRj, hid (by rw [HTk.out, HT'.out]; simp), hid ⟨by have := HK.out.1; have := HG2.out; omega, by have := HK.out.2; have := HG2.out; rw [List.length_append]; simp; omega⟩, HBj⟩
       case measure => have := HG2.out; simp [intOf]; omega
  ·obtain rfl : p = T.length := by omega
   have g2 : decide ((T.length : Int) < (T.length : Int)) = false := decide_eq_false (by omega)
   obtain ⟨k', rfl⟩ : ∃ k', k = k' + 1 := ⟨k - 1, by have := HK.out.1; omega⟩
   by_cases hbT : begun < T.length
   ·obtain ⟨b, off, rfl, hbl, hcell⟩ := rb_cell (HR.out) (by omega)
    clear hcell hbl
    have gb : decide ((begun : Int) < (T.length : Int)) = true := decide_eq_true (by omega)
    have gc1 : ¬ (c = begun) := by have := HC.out; omega
    have gc3 : (begun : Int) <= (T.length : Int) := by omega
    have hlen : (T.drop begun).length = T.length - begun := by rw [List.length_drop]
    have HL0 := literal_any wr (some ⟨b, off + begun, none⟩) (c - begun) (T.drop begun) (by rw [hlen]; omega) (by rw [hlen]; have := HT.out; omega) (by have := rb_sub (HR.out.below HB.out.1) begun (T.length - begun); rwa [List.take_of_length_le (by rw [hlen]; exact Nat.le_refl _)] at this)
    rw [hlen] at HL0
    have HL := hid HL0
    have HE : Hid (tokens T = tks ++ [Tok.lit (T.drop begun)]) := hid (by rw [HTk.out, toks, if_neg (Nat.lt_irrefl _), if_pos hbT])
    clear HL0 HTk
    go_wp2_with (first
     | (go_at_call 291; refine HL.out.mono ?_; rintro e w4 ⟨A4, c4, rfl, ho4, hb4⟩; have HO4 := hid ho4; have HB4 : Hid (Below wr.heap.size wr w4) := hid hb4; clear ho4 hb4; have hrow4 := HRow.out.below HB4.out; obtain ⟨xs, hx1, hx2⟩ := hrow4; have HX1 := hid (hx1.alloc (.cells #[.slice A4 (T.length - begun) c4, .int .i64 0, .int .i64 0] 373)); have HX2 := hid (hx2.keep (w' := w4.alloc (.cells #[.slice A4 (T.length - begun) c4, .int .i64 0, .int .i64 0] 373)) (fun g _ hlt _ => Below.heap_alloc _ _ _ hlt)); clear hx1 hx2)
     | ((with_reducible refine at_op ⟨_, .call { callee := .builtin .append, args := #[.tmp 60, .tmp 65], argTypes := _ }, _, _, _, _⟩ ?_); go_must (refine wpList_append_any _ rfl _ _ 330 rfl (w.heap.size + 1) 373 iT (.agg #[.slice none 0 0, .int .i64 0, .int .i64 0]) 3 40 Tryz.underlying330 hiT hzT0 hzT1 hzT2 rfl (by decide) _ tks.length xs rfl HX1.out _ (some ⟨w4.heap.size, 0, none⟩) 1 1 [.slice A4 (T.length - begun) c4, .int .i64 0, .int .i64 0] rfl (reads3 (Blk.new w4 _ _)) (by intro u hu; simp at hu; rcases hu with rfl | rfl | rfl <;> rfl) (by have := HK.out.2; have := HT.out; unfold maxLen; omega) (by have := HK.out.2; have := HT.out; omega) (by have := HB.out.2; have := HB4.out.size; simp; omega) ?_; intro v5 w5 ho5 hg5 hd5; have HR5 : Hid (Row (w.heap.size + 1) w5 v5 (tks ++ [.lit (T.drop begun)])) := hid (Row.push HX1.out HX2.out ⟨A4, c4, by rw [hlen], by rw [hlen]; exact own_less ((HO4.out).alloc _) (by have := HB.out.2; omega)⟩ ho5 hg5); have HB5 : Hid (Below w.heap.size w w5) := hid (((HB.out.1.trans (HB4.out.mono (by have := HB.out.2; omega))).alloc (by have := HB.out.2; have := HB4.out.size; omega) _).grown hg5 (by have := HB.out.2; have := HB4.out.size; simp; omega) (fun g e => by have := (HX1.out.lt g e).1; omega)); clear ho5 hg5 hd5))
     | fail)
    go_ret2
    exact ⟨v5, rfl, by rw [HE.out]; exact HR5.out, HB5.out⟩
   ·have gb : decide ((begun : Int) < (T.length : Int)) = false := decide_eq_false (by omega)
    have HE : Hid (tokens T = tks) := hid (by rw [HTk.out, toks, if_neg (Nat.lt_irrefl _), if_neg hbT, List.append_nil])
    clear HTk
    go_wp2_with fail
    go_ret2
    exact ⟨_, rfl, by rw [HE.out]; exact HRow.out, HB.out.1⟩
end Go.Proofs.YtendlmdmbkcdnaaGreatDoor.sq
namespace Go.Proofs.YtendlmdmbkcdnaaGreatDoor.oc
open Go.RowKit
open Go.Lib (hid)
set_option maxRecDepth 100000
def TF (w w' : World) : Prop := ∀ (k : Nat) (cs : Array Value) (t : TypeId), w.heap[k]? = some (Obj.cells cs t (0, 0)) -> t ≠ 5 -> t ≠ 289 -> w'.heap[k]? = some (Obj.cells cs t (0, 0))
theorem TF.refl (w : World) : TF w w := fun _ _ _ h _ _ => h
theorem TF.trans {a b c : World} (h : TF a b) (k : TF b c) : TF a c := fun i cs t h1 h2 h3 => k i cs t (h i cs t h1 h2 h3) h2 h3
theorem TF.of_below {w w' : World} (h : Below w.heap.size w w') : TF w w' := fun k _ _ hk _ _ => (h.block k (Array.getElem?_eq_some_iff.1 hk).1).trans hk
theorem TF.blk {w w' : World} {g : Nat} {t : TypeId} {cs : Array Value} (h : TF w w') (hB : Blk w g t cs) (h1 : t ≠ 5) (h2 : t ≠ 289) : Blk w' g t cs := h g cs t hB h1 h2
set_option maxHeartbeats 1000000 in
theorem raw_t (B g : Nat) (l s : List UInt8) (hn : l.length + s.length <= 1099511627776) (A : Option Addr) (c : Nat) (w : World) (h : Wr w B g l) (hs : RB w A s) : Calls Tryz.prog 116 #[.pointer (some ⟨g, 0, none⟩), .slice A s.length c] w fun e w' => e = .returned (.tuple #[]) /\ Wr w' B g (l ++ s) /\ Below B w w' /\ TF w w' := by
 obtain ⟨i0, hi, hz0, hz1, hz2⟩ := info_parts infoB
 obtain ⟨hBg, v, hT, hO⟩ := h
 have c0 : w.cell? ⟨g, 0, none⟩ = some v := (hT.cell 0).trans rfl
 have hBw : B <= w.heap.size := Nat.le_of_lt (Nat.lt_of_le_of_lt hBg hT.lt)
 have hlim : (l.length + s.length) * 1 <= 140737488355328 := by omega
 have hmx : l.length + s.length <= maxLen := by unfold maxLen; omega
 have HT := hid hT
 have HO := hid hO
 have HS := hid hs.reads
 clear hT hO hs
 go_enter Tryz.func116, Tryz.ntmps116
 go_wp2_with (first
  | (at_builtin; go_must (refine wpList_append_any _ rfl _ _ 74 rfl B 5 i0 (.int .u8 0) 1 1 Tryz.underlying74 hi hz0 hz1 hz2 rfl (by decide) v l.length (bc l) rfl HO.out w.heap.size A s.length c (bc s) rfl HS.out (bc_one s) hmx hlim hBw ?_; intro v' w2 hown2 hgr2 _; obtain ⟨A2, k2, rfl⟩ := own_slice hown2; have HO2 := hid hown2; have HG2 := hid hgr2; have HT2 : Hid (Blk w2 g 289 #[v]) := HT.out.grown hgr2 (fun e => own_ne HO.out HT.out (by decide) e.symm); have c2 : w2.cell? ⟨g, 0, none⟩ = some v := (HT2.out.cell 0).trans rfl; have f2 := HT2.out.frozen 0; clear hown2 hgr2 c0))
  | fail)
 go_end0
 refine ⟨rfl, ⟨hBg, .slice A2 _ k2, HT2.out.set_ 0 _, ?_⟩, ?_, ?_⟩
 ·have := own_set (i := 0) HO2.out (own_ne HO2.out HT2.out (by decide)) (.slice A2 (l.length + s.length) k2)
  rwa [List.length_append, bc_append]
 ·exact ((Below.refl _ _).grown HG2.out hBw (fun k hk => (HO.out.lt k hk).1)).setCell (by exact hBg) _
 ·intro k cs t hk h1 h2
  have hkl : k < w.heap.size := (Array.getElem?_eq_some_iff.1 hk).1
  have hg2 := HG2.out.block k hkl (fun e => by
   rcases HO.out.2 with ⟨e1, _⟩ | ⟨g', cap, cur, e1, _, e3, _⟩
   ·rw [e1] at e; simp [Value.ownBlock] at e
   ·rw [e1] at e
    have e2 : k = g' := by simpa [Value.ownBlock] using e
    subst e2
    rw [hk] at e3
    injection e3 with e3
    injection e3 with _ e4
    exact h1 e4)
  have hne : k ≠ g := fun e => by
   subst e
   have := HT.out
   unfold Blk at this
   rw [hk] at this
   injection this with e3
   injection e3 with _ e4
   exact h2 e4
  exact (Below.heap_setCell w2 ⟨g, 0, none⟩ _ k hne).trans (hg2.trans hk)
theorem wuv_t (B g : Nat) (l : List UInt8) (v : Nat) (hv : v < 18446744073709551616) (hn : l.length <= 1099511600000) (w : World) (h : Wr w B g l) : Calls Tryz.prog 167 #[.pointer (some ⟨g, 0, none⟩), .int .u64 (v : Int)] w fun e w' => e = .returned (.tuple #[]) /\ Wr w' B g (l ++ uv 9 v) /\ Below B w w' /\ TF w w' := by
  have hBw : B <= w.heap.size := Nat.le_of_lt (Nat.lt_of_le_of_lt h.1 h.lt)
  have hu := uvarint_any 9 v (by have : (128 : Nat) ^ (9 + 1) = 1180591620717411303424 := by decide
                                 omega) (by decide) w w.heap.size (Nat.le_refl _)
  have hul := uv_length 9 v
  have HV := hid hv
  have HU := hid hu
  have HW := hid h
  clear h hu hv
  go_enter Tryz.func167, Tryz.ntmps167
  go_wp2_with fail
  refine HU.out.mono ?_
  rintro e w1 ⟨A, c, rfl, ho, hb1⟩
  have HO := hid ho
  have HB1 := hid hb1
  clear ho hb1
  go_wp2_with fail
  refine (raw_t B g l (uv 9 v) (by omega) A c w1 (HW.out.below HB1.out) (RB.of_own HO.out)).mono ?_
  rintro e w2 ⟨rfl, h2, hb2, ht2⟩
  have HT2 := hid ht2
  clear ht2
  have H2 := hid h2
  have HB2 := hid hb2
  clear h2 hb2
  go_wp2_with fail
  go_end0
  exact ⟨rfl, H2.out, (HB1.out.mono hBw).trans HB2.out, (TF.of_below HB1.out).trans HT2.out⟩
end Go.Proofs.YtendlmdmbkcdnaaGreatDoor.oc
namespace Go.Proofs.YtendlmdmbkcdnaaGreatDoor.sq
open Go.RowKit oc
set_option maxRecDepth 100000
def tokB : Tok -> List UInt8
 | .lit l => uv 9 (2 * l.length) ++ l
 | .mat d n => uv 9 (2 * n + 1) ++ uv 9 d
def toksB : List Tok -> List UInt8
 | [] => []
 | t :: ts => tokB t ++ toksB ts
def blockN (n : Nat) (ts : List Tok) : List UInt8 := uv 9 n ++ toksB ts
def okT : Tok -> Prop
 | .lit l => 0 < l.length /\ l.length <= 4096
 | .mat d n => d <= 4096 /\ n <= 4096
theorem toksB_snoc (ts : List Tok) (t : Tok) : toksB (ts ++ [t]) = toksB ts ++ tokB t := by
 induction ts with
 | nil => simp [toksB]
 | cons a r ih => simp [toksB, ih]
theorem tokB_len {t : Tok} (h : okT t) : (tokB t).length <= 5000 := by
 cases t with
 | lit l =>
  have := uv_length 9 (2 * l.length)
  have := h.2
  simp [tokB]; omega
 | mat d n =>
  have := uv_length 9 (2 * n + 1)
  have := uv_length 9 d
  simp [tokB]; omega
theorem toksB_len : ∀ {ts : List Tok}, (∀ t ∈ ts, okT t) -> (toksB ts).length <= ts.length * 5000
 | [], _ => by simp [toksB]
 | t :: ts, h => by
  have h1 := tokB_len (h t List.mem_cons_self)
  have h2 := toksB_len (fun t ht => h t (List.mem_cons_of_mem _ ht))
  simp [toksB]; omega
theorem TokL.at_ {w : World} {B : Nat} : ∀ {ts : List Tok} {xs : List Value} {i : Nat} {t : Tok}, TokL w B ts xs -> ts[i]? = some t -> ∃ a, TokV w B a t /\ ∀ j, j < 3 -> xs[i * 3 + j]? = a[j]?
 | [], _, _, _, _, h => by simp at h
 | s :: ts, _, 0, t, h, ht => by
  obtain ⟨a, r, rfl, h1, _⟩ := h
  simp only [List.getElem?_cons_zero, Option.some.injEq] at ht
  subst ht
  refine ⟨a, h1, fun j hj => ?_⟩
  rw [List.getElem?_append_left (by rw [h1.len]; omega)]
  simp
 | s :: ts, _, i + 1, t, h, ht => by
  obtain ⟨a, r, rfl, h1, h2⟩ := h
  simp only [List.getElem?_cons_succ] at ht
  obtain ⟨b, h3, h4⟩ := h2.at_ ht
  refine ⟨b, h3, fun j hj => ?_⟩
  rw [List.getElem?_append_right (by rw [h1.len]; omega), h1.len, <- h4 j hj]
  congr 1
  omega
theorem Row.at_ {B : Nat} {w : World} {v : Value} {ts : List Tok} {i : Nat} {t : Tok} (h : Row B w v ts) (ht : ts[i]? = some t) : ∃ g c a, v = .slice (some ⟨g, 0, none⟩) ts.length c /\ g < w.heap.size /\ TokV w B a t /\ ∀ j x, a[j]? = some x -> w.cell? ⟨g, i * 3 + j, none⟩ = some x := by
 obtain ⟨xs, h1, h2⟩ := h
 obtain ⟨a, h3, h4⟩ := h2.at_ ht
 have hi : i < ts.length := (List.getElem?_eq_some_iff.1 ht).1
 have hcl := fun g hg => h1.cells (g := g) hg
 have hlt := fun g hg => (h1.lt g hg).2
 rcases h1.2 with ⟨_, h0⟩ | ⟨g, cap, cur, rfl, _⟩
 ·omega
 ·refine ⟨g, cap, a, rfl, hlt g rfl, h3, fun j x hx => ?_⟩
  have hj : j < 3 := by
   have := (List.getElem?_eq_some_iff.1 hx).1
   rwa [h3.len] at this
  have := hcl g rfl (i * 3 + j) x (by rw [h4 j hj]; exact hx)
  rwa [add_flat, Nat.zero_add] at this
end Go.Proofs.YtendlmdmbkcdnaaGreatDoor.sq
namespace Go.Proofs.YtendlmdmbkcdnaaGreatDoor.sq
open Go.RowKit oc
open Go.Lib (hid)
set_option maxRecDepth 100000
theorem toksB_take {ts : List Tok} {i : Nat} {t : Tok} (h : ts[i]? = some t) : toksB (ts.take (i + 1)) = toksB (ts.take i) ++ tokB t := by
 rw [List.take_add_one, h]
 exact toksB_snoc _ _
theorem take_len {ts : List Tok} (hts : ∀ t ∈ ts, okT t) (hl : ts.length <= 4096) (i n : Nat) : (uv 9 n ++ toksB (ts.take i)).length <= 30000000 := by
 have h1 := toksB_len (ts := ts.take i) (fun t ht => hts t (List.mem_of_mem_take ht))
 have h2 : (ts.take i).length <= ts.length := List.length_take_le' _ _
 have h3 := uv_length 9 n
 rw [List.length_append]
 omega
set_option maxHeartbeats 8000000 in
theorem block_any (w : World) (B : Nat) (v : Value) (n : Nat) (ts : List Tok) (hn : n <= 4096) (hts : ∀ t ∈ ts, okT t) (hl : ts.length <= 4096) (hR : Row B w v ts) :
  Calls Tryz.prog 260 #[.int .i64 (n : Int), v] w fun e w' => ∃ A c, e = .returned (.slice A (blockN n ts).length c) /\ w'.ownsRow w.heap.size 5 1 (.slice A (blockN n ts).length c) (blockN n ts).length (bc (blockN n ts)) /\ Below w.heap.size w w' := by
 obtain ⟨A, c, rfl⟩ := hR.slice
 have e0 : IntKind.u64.wrap (n : Int) = (n : Int) := by rw [IntKind.wrap_u64]; omega
 have HR := hid hR
 have HN := hid hn
 have HTS := hid hts
 have HL := hid hl
 clear hR hn hts hl
 go_enter Tryz.func260, Tryz.ntmps260
 go_wp2_with (first
  | (go_at_call 113; refine (writer_new w.heap.size w (Nat.le_refl _)).mono ?_; rintro e w1 ⟨rfl, h1, hb1⟩; have H1 := hid h1; have HB1 := hid hb1; clear h1 hb1)
  | (go_at_call 167; refine (wuv_t w.heap.size w.heap.size [] n (by have := HN.out; omega) (by simp) w1 H1.out).mono ?_; rintro e w2 ⟨rfl, h2, hb2, ht2⟩; have H2 := hid h2; have HB2 := hid (HB1.out.trans hb2); clear h2 hb2 ht2)
  | fail)
 go_loopw [15] (fun x wr => ∃ i : Nat, i <= ts.length /\ x = .int .i64 (i : Int) /\ Hid (Wr wr w.heap.size w.heap.size (uv 9 n ++ toksB (ts.take i))) /\ Hid (Below w.heap.size w wr)) (fun x _ => ts.length - (intOf x).toNat)
 case atStart => exact ⟨0, Nat.zero_le _, rfl, by have := H2.out; rw [List.nil_append] at this; rw [List.take_zero, toksB, List.append_nil]; exact hid this, HB2⟩
 case round =>
  obtain ⟨i, hi, rfl, HW, HB⟩ := hrel
  clear H1 HB1 H2 HB2
  by_cases hlt : i < ts.length
  ·have g1 : decide ((i : Int) < (ts.length : Int)) = true := decide_eq_true (by omega)
   obtain ⟨t, ht⟩ : ∃ t, ts[i]? = some t := ⟨_, List.getElem?_eq_getElem hlt⟩
   obtain ⟨g, cc, a, hsl, hgw, hV, hC⟩ := HR.out.at_ ht
   injection hsl with hsl _ hcc
   subst hsl
   subst hcc
   have hok : okT t := HTS.out t (List.mem_of_getElem? ht)
   have HE : Hid (toksB (ts.take (i + 1)) = toksB (ts.take i) ++ tokB t) := hid (toksB_take ht)
   have hlen := take_len HTS.out HL.out i n
   have e7 : IntKind.i64.wrap ((i : Int) + 1) = (i : Int) + 1 := by have := HL.out; rw [IntKind.wrap_i64]; omega
   have HC : Hid (∀ j x, a[j]? = some x -> wr.cell? ⟨g, i * 3 + j, none⟩ = some x) := hid (fun j x hx => (World.cell?_of_block (HB.out.block g hgw)).trans (hC j x hx))
   have hal := hV.len
   have HS : Hid (w.heap.size < wr.heap.size) := hid HW.out.lt
   clear hC
   cases t with
   | lit l =>
    obtain ⟨LA, lc, rfl, hO⟩ := hV
    have HRB : Hid (RB w LA l) := hid (RB.of_own hO)
    have hl0 := hok.1
    have hl1 := hok.2
    clear hO hok hal
    have gl : decide ((0 : Int) < (l.length : Int)) = true := decide_eq_true (by omega)
    have e1 : IntKind.u64.wrap (l.length : Int) = (l.length : Int) := by rw [IntKind.wrap_u64]; omega
    have e2 : IntKind.u64.wrap (2 * (l.length : Int)) = 2 * (l.length : Int) := by rw [IntKind.wrap_u64]; omega
    have ec : ((2 * l.length : Nat) : Int) = 2 * (l.length : Int) := by omega
    go_wp2_with (first
     | ((with_reducible refine at_op ⟨_, .load 373 (.tmp 17), _, _, _, _⟩ ?_); refine wpList_load_list rfl 373 (.tmp 17) rfl ⟨g, i * 3, none⟩ rfl [.slice LA l.length lc, .int .i64 0, .int .i64 0] (fun j v hv => by rw [add_flat]; exact HC.out j v hv) _ Tryz.underlying373 rfl (by kernel_rfl) ?_)
     | ((with_reducible refine at_op ⟨_, .store 373 (.tmp 7) (.tmp 18), _, _, _, _⟩ ?_); refine wpList_store_blk rfl 373 (.tmp 7) (.tmp 18) rfl wr.heap.size 0 rfl [.slice LA l.length lc, .int .i64 0, .int .i64 0] rfl (by intro u hu; simp at hu; rcases hu with rfl | rfl | rfl <;> rfl) 373 _ (Blk.new wr _ _) (by simp) (by kernel_rfl) ?_; intro w2 hT2 hg2 hs2; rw [put_all _ _ (by simp)] at hT2; have HT2 : Hid (Blk w2 wr.heap.size 373 #[.slice LA l.length lc, .int .i64 0, .int .i64 0]) := hid hT2; have HW2 : Hid (Below wr.heap.size wr w2) := hid (below_gb ((Below.refl _ _).alloc (Nat.le_refl _) _) hg2 (by simp) (Nat.le_refl _)); have cm : w2.cell? ⟨wr.heap.size, 0, none⟩ = some (.slice LA l.length lc) := (HT2.out.cell 0).trans rfl; have hu := wuv_t w.heap.size w.heap.size _ (2 * l.length) (by omega) (by omega) w2 (HW.out.below HW2.out); rw [ec] at hu; have HU := hid hu; clear hT2 hg2 hs2 hu)
     | (go_at_call 167; refine HU.out.mono ?_; rintro e w3 ⟨rfl, h3, hb3, ht3⟩; have H3 := hid h3; have HB3 := hid hb3; have HT3 := hid (ht3.blk HT2.out (by decide) (by decide)); have cm3 : w3.cell? ⟨wr.heap.size, 0, none⟩ = some (.slice LA l.length lc) := (HT3.out.cell 0).trans rfl; clear h3 hb3 ht3 cm)
     | (go_at_call 116; refine (raw_t w.heap.size w.heap.size _ l (by rw [List.length_append]; have := uv_length 9 (2 * l.length); omega) LA lc w3 H3.out (HRB.out.below ((HB.out.trans (HW2.out.mono (Nat.le_of_lt HS.out))).trans HB3.out))).mono ?_; rintro e w4 ⟨rfl, h4, hb4, ht4⟩; have H4 := hid h4; have HB4 := hid hb4; clear h4 hb4 ht4)
     | fail)
    go_roundw
    case rel => exact ⟨i + 1, by omega, by go_num, by rw [HE.out, tokB, <- List.append_assoc, <- List.append_assoc]; exact H4, hid (((HB.out.trans (HW2.out.mono (Nat.le_of_lt HS.out))).trans HB3.out).trans HB4.out)⟩
    case measure => simp [intOf]; omega
   | mat d m =>
    have hV : a = (tokC d m).toList := hV
    subst hV
    have hd1 := hok.1
    have hm1 := hok.2
    clear hok hal
    have e1 : IntKind.u64.wrap (m : Int) = (m : Int) := by rw [IntKind.wrap_u64]; omega
    have e2 : IntKind.u64.wrap (2 * (m : Int)) = 2 * (m : Int) := by rw [IntKind.wrap_u64]; omega
    have e3 : IntKind.u64.wrap (2 * (m : Int) + 1) = 2 * (m : Int) + 1 := by rw [IntKind.wrap_u64]; omega
    have e4 : IntKind.u64.wrap (d : Int) = (d : Int) := by rw [IntKind.wrap_u64]; omega
    have ec : ((2 * m + 1 : Nat) : Int) = 2 * (m : Int) + 1 := by omega
    go_wp2_with (first
     | ((with_reducible refine at_op ⟨_, .load 373 (.tmp 17), _, _, _, _⟩ ?_); refine wpList_load_list rfl 373 (.tmp 17) rfl ⟨g, i * 3, none⟩ rfl (tokC d m).toList (fun j v hv => by rw [add_flat]; exact HC.out j v hv) _ Tryz.underlying373 rfl (by kernel_rfl) ?_)
     | ((with_reducible refine at_op ⟨_, .store 373 (.tmp 7) (.tmp 18), _, _, _, _⟩ ?_); refine wpList_store_blk rfl 373 (.tmp 7) (.tmp 18) rfl wr.heap.size 0 rfl (tokC d m).toList rfl (by intro u hu; simp [tokC] at hu; rcases hu with rfl | rfl | rfl <;> rfl) 373 _ (Blk.new wr _ _) (by simp [tokC]) (by kernel_rfl) ?_; intro w2 hT2 hg2 hs2; rw [put_all _ _ (by simp [tokC])] at hT2; have HT2 : Hid (Blk w2 wr.heap.size 373 (tokC d m)) := hid hT2; have HW2 : Hid (Below wr.heap.size wr w2) := hid (below_gb ((Below.refl _ _).alloc (Nat.le_refl _) _) hg2 (by simp) (Nat.le_refl _)); have cm : w2.cell? ⟨wr.heap.size, 0, none⟩ = some (.slice none 0 0) := (HT2.out.cell 0).trans rfl; have cn : w2.cell? ⟨wr.heap.size, 2, none⟩ = some (.int .i64 (m : Int)) := (HT2.out.cell 2).trans rfl; have hu := wuv_t w.heap.size w.heap.size _ (2 * m + 1) (by omega) (by omega) w2 (HW.out.below HW2.out); rw [ec] at hu; have HU := hid hu; clear hT2 hg2 hs2 hu)
     | (go_at_call 167; refine HU.out.mono ?_; rintro e w3 ⟨rfl, h3, hb3, ht3⟩; have H3 := hid h3; have HB3 := hid hb3; have HT3 := hid (ht3.blk HT2.out (by decide) (by decide)); have cm3 : w3.cell? ⟨wr.heap.size, 1, none⟩ = some (.int .i64 (d : Int)) := (HT3.out.cell 1).trans rfl; clear h3 hb3 ht3 cm HU)
     | (go_at_call 167; refine (wuv_t w.heap.size w.heap.size _ d (by omega) (by rw [List.length_append]; have := uv_length 9 (2 * m + 1); omega) w3 H3.out).mono ?_; rintro e w4 ⟨rfl, h4, hb4, ht4⟩; have H4 := hid h4; have HB4 := hid hb4; clear h4 hb4 ht4)
     | fail)
    go_roundw
    case rel => exact ⟨i + 1, by omega, by go_num, by rw [HE.out, tokB, <- List.append_assoc, <- List.append_assoc]; exact H4, hid (((HB.out.trans (HW2.out.mono (Nat.le_of_lt HS.out))).trans HB3.out).trans HB4.out)⟩
    case measure => simp [intOf]; omega
  ·obtain rfl : i = ts.length := by omega
   have g1 : decide ((ts.length : Int) < (ts.length : Int)) = false := decide_eq_false (by omega)
   have hlen := take_len HTS.out HL.out ts.length n
   rw [List.take_length] at hlen
   have hW : Wr wr w.heap.size w.heap.size (blockN n ts) := by have := HW.out; rwa [List.take_length] at this
   have HW' := hid hW
   clear HW hW
   go_wp2_with (first
    | (go_at_call 117; refine (bytes_any w.heap.size w.heap.size (blockN n ts) (by unfold blockN; omega) wr HW'.out wr.heap.size (Nat.le_refl _)).mono ?_; rintro e w4 ⟨A4, c4, rfl, ho4, hb4⟩; have HO4 := hid ho4; have HB4 := hid hb4; clear ho4 hb4)
    | fail)
   go_ret
   exact ⟨A4, c4, rfl, own_less HO4.out HB.out.size, HB.out.trans (HB4.out.mono HB.out.size)⟩
theorem toks_ok (T : List UInt8) (hT : T.length <= 4096) : ∀ (k : Nat) (F : Fi) (begun p : Nat), Inv F p -> begun <= p -> p <= T.length -> (∀ t ∈ toks T k F begun p, okT t) /\ (toks T k F begun p).length <= T.length - begun
 | 0, F, begun, p, _, _, _ => by simp [toks]
 | k + 1, F, begun, p, hI, hb, hp => by
  rw [toks]
  by_cases h : p < T.length
  ·rw [if_pos h]
   have hg := match_good T F p hp hI
   rcases hmn : matchN T F p with ⟨d, m⟩
   rw [hmn] at hg
   have hg : m = 0 /\ d = 0 \/ 5 <= m /\ m <= 258 /\ 1 <= d /\ d <= 2048 /\ d <= p /\ p + m <= T.length := hg
   by_cases hm : m = 0
   ·rw [if_pos hm]
    exact toks_ok T hT k _ begun (p + 1) hI.pass (by omega) h
   ·rw [if_neg hm]
    obtain ⟨h1, h2⟩ := toks_ok T hT k (passes T F p m) (p + m) (p + m) (hI.passes m) (Nat.le_refl _) (by omega)
    have hlit : begun < p -> okT (.lit ((T.drop begun).take (p - begun))) := fun hbp => by
     have : ((T.drop begun).take (p - begun)).length = p - begun := by rw [List.length_take, List.length_drop]; omega
     exact ⟨by rw [this]; omega, by rw [this]; omega⟩
    have hmat : okT (.mat d m) := ⟨by omega, by omega⟩
    refine ⟨fun t ht => ?_, ?_⟩
    ·rw [List.mem_append, List.mem_cons] at ht
     rcases ht with ht | rfl | ht
     ·by_cases hbp : begun < p
      ·rw [if_pos hbp, List.mem_singleton] at ht
       rw [ht]; exact hlit hbp
      ·rw [if_neg hbp] at ht; simp at ht
     ·exact hmat
     ·exact h1 t ht
    ·dsimp only
     rw [List.length_append, List.length_cons]
     by_cases hbp : begun < p
     ·rw [if_pos hbp, List.length_singleton]; omega
     ·rw [if_neg hbp, List.length_nil]; omega
  ·rw [if_neg h]
   by_cases hbT : begun < T.length
   ·rw [if_pos hbT]
    refine ⟨fun t ht => ?_, by simp; omega⟩
    rw [List.mem_singleton] at ht
    rw [ht]
    exact ⟨by rw [List.length_drop]; omega, by rw [List.length_drop]; omega⟩
   ·rw [if_neg hbT]; simp
theorem tokens_ok {T : List UInt8} (hT : T.length <= 4096) : (∀ t ∈ tokens T, okT t) /\ (tokens T).length <= 4096 := by
 obtain ⟨h1, h2⟩ := toks_ok T hT (T.length + 1) zF 0 0 zF_inv (Nat.le_refl _) (Nat.zero_le _)
 exact ⟨h1, Nat.le_trans h2 (by omega)⟩
def encN (T : List UInt8) : List UInt8 := blockN T.length (tokens T)
theorem encN_len {T : List UInt8} (hT : T.length <= 4096) : (encN T).length <= 30000000 := by
 have h := tokens_ok hT
 have := take_len h.1 h.2 (tokens T).length T.length
 rw [List.take_length] at this
 exact this
set_option maxHeartbeats 8000000 in
theorem encode_any (w : World) (A : Option Addr) (c : Nat) (T : List UInt8) (hR : RB w A T) (hc : T.length <= c) (hT : T.length <= 4096) :
  Calls Tryz.prog 208 #[.slice A T.length c] w fun e w' => ∃ A' c', e = .returned (.tuple #[.slice A' (encN T).length c', .int .i64 0]) /\ w'.ownsRow w.heap.size 5 1 (.slice A' (encN T).length c') (encN T).length (bc (encN T)) /\ Below w.heap.size w w' := by
 have HT := hid (tokens_any w A c T hR hc hT)
 have HOK := hid (tokens_ok hT)
 have HL := hid hT
 clear hR hc hT
 go_enter Tryz.func208, Tryz.ntmps208
 go_wp2_with (first
  | (go_at_call 259; refine HT.out.mono ?_; rintro e w1 ⟨v, rfl, h1, hb1⟩; obtain ⟨A1, c1, rfl⟩ := h1.slice; have H1 := hid h1; have HB1 := hid hb1; clear h1 hb1)
  | (go_at_call 260; refine (block_any w1 _ _ T.length (tokens T) HL.out HOK.out.1 HOK.out.2 H1.out).mono ?_; rintro e w2 ⟨A2, c2, rfl, ho2, hb2⟩; have HO2 := hid ho2; have HB2 := hid hb2; clear ho2 hb2)
  | fail)
 go_ret2
 exact ⟨A2, c2, rfl, own_less HO2.out HB1.out.size, HB1.out.trans (HB2.out.mono HB1.out.size)⟩
end Go.Proofs.YtendlmdmbkcdnaaGreatDoor.sq
namespace Go.Proofs.YtendlmdmbkcdnaaGreatDoor.rc
open Go.RowKit oc sq
open Go.Lib (hid)
set_option maxRecDepth 100000
theorem own_cap {w : World} {B n c z : Nat} {A : Option Addr} {e : TypeId} {xs : List Value} (h : w.ownsRow B e z (.slice A n c) n xs) : n <= c := by
 rcases h.2 with ⟨h1, h2⟩ | ⟨g, cap, cur, h1, _, _, h4, _⟩
 ·omega
 ·injection h1 with _ _ h1
  omega
def shortN (v : List UInt8) : List UInt8 × Bool := if (encN v).length < v.length then (encN v, true) else (v, false)
set_option maxHeartbeats 8000000 in
theorem short_any (w : World) (s : ByteArray) (hs : s.size <= 4096) :
  Calls Tryz.prog 166 #[.string s] w fun e w' => ∃ A c, e = .returned (.tuple #[.slice A (shortN s.data.toList).1.length c, .bool (shortN s.data.toList).2]) /\ RB w' A (shortN s.data.toList).1 /\ (shortN s.data.toList).1.length <= c /\ Below w.heap.size w w' := by
 have hl : s.data.toList.length = s.size := by simp
 have HS : Hid (s.data.toList.length <= 4096) := hid (by rw [hl]; exact hs)
 have HSZ := hid hl
 have hcv := Lib.run_convert_string_bytes (P := Tryz.prog) w 9 74 5 s Tryz.underlying9 Tryz.underlying74 Tryz.underlying5
 have HC := hid (rb_conv w s)
 have HCB := hid (conv_below w 5 s)
 have HK : Hid (s.size <= grownCap w s.size 0 5) := hid (grownCap_ge _ _ _ _)
 clear hs hl
 go_enter Tryz.func166, Tryz.ntmps166
 generalize Lib.bytesWorld w 5 s = w1 at hcv HC HCB
 generalize grownCap w s.size 0 5 = cap at hcv HK
 have he := encode_any w1 (some ⟨w.heap.size, 0, none⟩) cap s.data.toList HC.out (by rw [HSZ.out]; exact HK.out) HS.out
 rw [HSZ.out] at he
 have HE := hid he
 clear he
 by_cases hlt : (encN s.data.toList).length < s.size
 ·have g1 : decide (((encN s.data.toList).length : Int) < (s.size : Int)) = true := decide_eq_true (by omega)
  have hsn : shortN s.data.toList = (encN s.data.toList, true) := by rw [shortN, HSZ.out, if_pos hlt]
  rw [hsn]
  go_wp2_with (first
   | (go_at_call 208; refine HE.out.mono ?_; rintro e w2 ⟨A2, c2, rfl, ho2, hb2⟩; have HO2 := hid ho2; have HB2 := hid hb2; clear ho2 hb2)
   | fail)
  go_ret2
  exact ⟨A2, c2, rfl, RB.of_own HO2.out, own_cap HO2.out, HCB.out.trans (HB2.out.mono HCB.out.size)⟩
 ·have g1 : decide (((encN s.data.toList).length : Int) < (s.size : Int)) = false := decide_eq_false (by omega)
  have hsn : shortN s.data.toList = (s.data.toList, false) := by rw [shortN, HSZ.out, if_neg hlt]
  rw [hsn]
  go_wp2_with (first
   | (go_at_call 208; refine HE.out.mono ?_; rintro e w2 ⟨A2, c2, rfl, ho2, hb2⟩; have HB2 := hid hb2; have hcv2 := Lib.run_convert_string_bytes (P := Tryz.prog) w2 9 74 5 s Tryz.underlying9 Tryz.underlying74 Tryz.underlying5; have HC2 := hid (rb_conv w2 s); have HCB2 := hid (conv_below w2 5 s); have HK2 : Hid (s.size <= grownCap w2 s.size 0 5) := hid (grownCap_ge _ _ _ _); clear ho2 hb2 hcv HC; generalize Lib.bytesWorld w2 5 s = w3 at hcv2 HC2 HCB2; generalize grownCap w2 s.size 0 5 = cap2 at hcv2 HK2)
   | fail)
  go_ret2
  have hz := HSZ.out
  refine ⟨some ⟨w2.heap.size, 0, none⟩, cap2, ?_, HC2.out, hz.symm ▸ HK2.out, (HCB.out.trans (HB2.out.mono HCB.out.size)).trans (HCB2.out.mono (Nat.le_trans HCB.out.size HB2.out.size))⟩
  show _ = Ending.returned (.tuple #[.slice _ s.data.toList.length cap2, .bool false])
  rw [hz]
  rfl
end Go.Proofs.YtendlmdmbkcdnaaGreatDoor.rc
