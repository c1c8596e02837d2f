/-
  Texts of the proof joined by a program: Rcd Rce Nma Sgi Sgj Maa.
-/
import Derived.Test.YtendlmdmbkcdnaaGreatDoorVf
import Derived.Test.YtendlmdmbkcdnaaGreatDoorVb
import Derived.Test.YtendlmdmbkcdnaaGreatDoorVj
import Derived.BigQuiet
import Derived.Maps.OwnOps
set_option linter.unusedSimpArgs false
set_option linter.unusedVariables false
namespace Go.Proofs.YtendlmdmbkcdnaaGreatDoor.rc
open Go.RowKit oc sq
open Go.Lib (hid)
set_option maxRecDepth 100000
def recN (kind off time pid seq : Nat) (key val : ByteArray) : List UInt8 := wrapL 169 (bodyN kind off time pid seq key val)
theorem body_len (kind off time pid seq : Nat) (key val : ByteArray) (hk : key.size <= 64) (hv : val.size <= 4096) : (bodyN kind off time pid seq key val).length <= 100000 := by
 have hvl : val.data.toList.length = val.size := by simp
 have hkl : key.data.toList.length = key.size := by simp
 have hsl := short_len val.data.toList
 have h1 := uv_length 9 off
 have h2 := uv_length 9 time
 have h3 := uv_length 9 pid
 have h4 := uv_length 9 seq
 have h5 := uv_length 9 key.size
 unfold bodyN
 by_cases hp : 0 < pid
 ·rw [if_pos hp]; simp only [List.length_append, List.length_cons, List.length_nil]; omega
 ·rw [if_neg hp]; simp only [List.length_append, List.length_cons, List.length_nil]; omega
structure Good (kind off time pid seq : Nat) (key val : ByteArray) : Prop where
 kd : kind = 1 \/ kind = 2
 o : off < 1099511627776
 t : time < 1125899906842624
 p : pid < 4294967296
 q : seq < 1099511627776
 q0 : pid = 0 -> seq = 0
 k : key.size <= 64
 v : val.size <= 1024
theorem wi_iff (v lo hi : Int) : wi v lo hi = true ↔ lo <= v /\ v < hi := by simp [wi]
theorem good_of {r : Rc} (h : checkN r = 0) : ∃ kind off time pid seq : Nat, r = ⟨(kind : Nat), (off : Nat), (time : Nat), (pid : Nat), (seq : Nat), r.key, r.val⟩ /\ Good kind off time pid seq r.key r.val := by
 unfold checkN at h
 by_cases h1 : r.kind ≠ 1 /\ r.kind ≠ 2
 ·rw [if_pos h1] at h; omega
 rw [if_neg h1] at h
 by_cases h2 : wi r.off 0 1099511627776 = false
 ·rw [if_pos h2] at h; omega
 rw [if_neg h2] at h
 by_cases h3 : wi r.time 0 1125899906842624 = false
 ·rw [if_pos h3] at h; omega
 rw [if_neg h3] at h
 by_cases h4 : wi r.pid 0 4294967296 = false
 ·rw [if_pos h4] at h; omega
 rw [if_neg h4] at h
 by_cases h5 : r.pid = 0 /\ r.seq ≠ 0
 ·rw [if_pos h5] at h; omega
 rw [if_neg h5] at h
 by_cases h6 : r.pid ≠ 0 /\ wi r.seq 1 1099511627776 = false
 ·rw [if_pos h6] at h; omega
 rw [if_neg h6] at h
 by_cases h7 : r.key.size < 1 \/ 64 < r.key.size
 ·rw [if_pos h7] at h; omega
 rw [if_neg h7] at h
 by_cases h8 : 1024 < r.val.size
 ·rw [if_pos h8] at h; omega
 rw [Bool.not_eq_false, wi_iff] at h2 h3 h4
 have h6' : r.pid ≠ 0 -> 1 <= r.seq /\ r.seq < 1099511627776 := fun hp => by
  have hw : wi r.seq 1 1099511627776 = true := by
   cases hb : wi r.seq 1 1099511627776 with
   | true => rfl
   | false => exact absurd ⟨hp, hb⟩ h6
  exact (wi_iff _ _ _).1 hw
 have hseq : 0 <= r.seq /\ r.seq < 1099511627776 := by
  by_cases hp : r.pid = 0
  ·have : r.seq = 0 := Classical.byContradiction fun hs => h5 ⟨hp, hs⟩
   omega
  ·have := h6' hp; omega
 refine ⟨r.kind.toNat, r.off.toNat, r.time.toNat, r.pid.toNat, r.seq.toNat, ?_, ?_, ?_, ?_, ?_, ?_, ?_, ?_, ?_⟩
 ·obtain ⟨kind, off, time, pid, seq, key, val⟩ := r
  simp only [Rc.mk.injEq, and_true]
  simp only at h1 h2 h3 h4 hseq
  omega
 ·omega
 ·omega
 ·omega
 ·omega
 ·omega
 ·intro hp
  have : r.pid = 0 := by omega
  have : r.seq = 0 := Classical.byContradiction fun hs => h5 ⟨this, hs⟩
  omega
 ·omega
 ·omega
set_option maxHeartbeats 4000000 in
theorem encode_good (w : World) (kind off time pid seq : Nat) (key val : ByteArray) (hg : Good kind off time pid seq key val) (hck : checkN ⟨(kind : Nat), (off : Nat), (time : Nat), (pid : Nat), (seq : Nat), key, val⟩ = 0) :
  Calls Tryz.prog 54 #[.agg (Rc.cells ⟨(kind : Nat), (off : Nat), (time : Nat), (pid : Nat), (seq : Nat), key, val⟩)] w fun e w' => ∃ A c, e = .returned (.tuple #[.slice A (recN kind off time pid seq key val).length c, .int .i64 0]) /\ w'.ownsRow w.heap.size 5 1 (.slice A (recN kind off time pid seq key val).length c) (recN kind off time pid seq key val).length (bc (recN kind off time pid seq key val)) /\ Below w.heap.size w w' := by
 have hc := fun w => check_any w ⟨(kind : Nat), (off : Nat), (time : Nat), (pid : Nat), (seq : Nat), key, val⟩
 rw [hck] at hc
 have hbd := fun w => body_any w kind off time pid seq key val hg.kd hg.o hg.t hg.p hg.q hg.q0 hg.k (Nat.le_trans hg.v (by decide))
 have hbl := body_len kind off time pid seq key val hg.k (Nat.le_trans hg.v (by decide))
 unfold recN
 generalize bodyN kind off time pid seq key val = b at hbd hbl ⊢
 have HC := hid hc
 have HBD := hid hbd
 have hsum1 := extN_lt (s := 0) (by decide) (be4 b.length)
 have hsum2 := extN_lt hsum1 b
 have HS1 := hid hsum1
 have HS2 := hid hsum2
 have e1 : IntKind.u32.wrap (b.length : Int) = (b.length : Int) := by rw [IntKind.wrap_u32]; omega
 clear hc hbd hg hck hsum1 hsum2
 unfold Rc.cells at HC HBD ⊢
 go_enter Tryz.func54, Tryz.ntmps54
 go_wp2_with fail
 refine (HC.out _).mono ?_
 rintro e wc ⟨rfl, bc0⟩
 have CB : Hid (Blk wc w.heap.size 47 #[.int .i64 (kind : Int), .int .i64 (off : Int), .int .i64 (time : Int), .int .i64 (pid : Int), .int .i64 (seq : Int), .string key, .string val]) := hid ((show Blk (w.alloc (.cells #[.int .i64 (kind : Int), .int .i64 (off : Int), .int .i64 (time : Int), .int .i64 (pid : Int), .int .i64 (seq : Int), .string key, .string val] 47)) w.heap.size 47 #[.int .i64 (kind : Int), .int .i64 (off : Int), .int .i64 (time : Int), .int .i64 (pid : Int), .int .i64 (seq : Int), .string key, .string val] from Blk.new w _ _).below bc0 (by simp))
 have BC : Hid (Below w.heap.size w wc) := hid (((Below.refl _ _).alloc (Nat.le_refl _) _).trans (bc0.mono (by simp)))
 clear bc0
 go_wp2_with (first
  | ((with_reducible refine at_op ⟨_, .load 47 (.tmp 1), _, _, _, _⟩ ?_); refine wpList_load_list rfl 47 (.tmp 1) rfl ⟨w.heap.size, 0, none⟩ rfl (#[.int .i64 (kind : Int), .int .i64 (off : Int), .int .i64 (time : Int), .int .i64 (pid : Int), .int .i64 (seq : Int), .string key, .string val] : Array Value).toList (fun j v hv => by rw [add_flat, Nat.zero_add, CB.out.cell, <- Array.getElem?_toList]; exact hv) _ Tryz.underlying47 rfl (by kernel_rfl) ?_)
  | fail)
 refine (HBD.out _).mono ?_
 rintro e w0 ⟨A, c, rfl, ob0, bb0⟩
 have HR : Hid (RB w0 A b) := hid (RB.of_own ob0)
 have BB : Hid (Below w.heap.size w w0) := hid (BC.out.trans (bb0.mono BC.out.size))
 clear ob0 bb0
 go_wp2_with fail
 refine (writer_new w0.heap.size w0 (Nat.le_refl _)).mono ?_
 rintro e w1 ⟨rfl, h1, b1⟩
 have H1 := hid h1
 have B1 := hid b1
 clear h1 b1
 go_wp2_with fail
 refine (u32_any _ _ _ b.length (by omega) (by simp) w1 H1.out).mono ?_
 rintro e w2 ⟨rfl, h2, b2⟩
 have H2 := hid h2
 have B2 : Hid (Below w0.heap.size w0 w2) := B1.out.trans b2
 clear h2 b2
 go_wp2_with fail
 refine (writer_new w2.heap.size w2 (Nat.le_refl _)).mono ?_
 rintro e w3 ⟨rfl, h3, b3⟩
 have H3 := hid h3
 have B3 := hid b3
 clear h3 b3
 go_wp2_with fail
 refine (byte_is _ _ _ 169 (by decide) (by simp) w3 H3.out).mono ?_
 rintro e w4 ⟨rfl, h4, b4⟩
 have H4 := hid h4
 have B4 : Hid (Below w2.heap.size w2 w4) := B3.out.trans b4
 clear h4 b4
 go_wp2_with fail
 refine (bytes_any _ _ _ (by simp [be4_length]) w4 (H2.out.below B4.out) w4.heap.size (Nat.le_refl _)).mono ?_
 rintro e w5 ⟨A5, c5, rfl, o5, b5⟩
 have O5 := hid o5
 have B5 : Hid (Below w2.heap.size w2 w5) := B4.out.trans (b5.mono B4.out.size)
 have H5 : Hid (Wr w5 w2.heap.size w2.heap.size _) := H4.out.below b5
 clear o5 b5
 go_wp2_with fail
 refine (raw_any _ _ _ _ (by simp [be4_length]) A5 c5 w5 H5.out (RB.of_own O5.out)).mono ?_
 rintro e w6 ⟨rfl, h6, b6⟩
 have H6 := hid h6
 have B6 : Hid (Below w2.heap.size w2 w6) := B5.out.trans b6
 clear h6 b6
 go_wp2_with fail
 refine (bytes_any _ _ _ (by simp [be4_length]) w6 (H2.out.below B6.out) w6.heap.size (Nat.le_refl _)).mono ?_
 rintro e w7 ⟨A7, c7, rfl, o7, b7⟩
 have O7 := hid o7
 have B7 : Hid (Below w2.heap.size w2 w7) := B6.out.trans (b7.mono B6.out.size)
 have H7 : Hid (Wr w7 w2.heap.size w2.heap.size _) := H6.out.below b7
 clear o7 b7
 go_wp2_with fail
 refine (sum_any _ (by simp [be4_length]) A7 c7 w7 (RB.of_own O7.out)).mono ?_
 rintro e w8 ⟨rfl, b8⟩
 have B8 : Hid (Below w2.heap.size w2 w8) := B7.out.trans (b8.mono B7.out.size)
 have H8 : Hid (Wr w8 w2.heap.size w2.heap.size _) := H7.out.below b8
 clear b8
 have HR8 : Hid (RB w8 A b) := HR.out.below (B2.out.trans (B8.out.mono B2.out.size))
 go_wp2_with fail
 refine (extend_any _ HS1.out b (by omega) A c w8 HR8.out).mono ?_
 rintro e w9 ⟨rfl, b9⟩
 have B9 : Hid (Below w2.heap.size w2 w9) := B8.out.trans (b9.mono B8.out.size)
 have H9 : Hid (Wr w9 w2.heap.size w2.heap.size _) := H8.out.below b9
 clear b9
 go_wp2_with fail
 refine (u32_any _ _ _ _ HS2.out (by simp [be4_length]) w9 H9.out).mono ?_
 rintro e w10 ⟨rfl, h10, b10⟩
 have H10 := hid h10
 have B10 : Hid (Below w2.heap.size w2 w10) := B9.out.trans b10
 have HR10 : Hid (RB w10 A b) := HR.out.below (B2.out.trans ((B9.out.trans b10).mono B2.out.size))
 clear h10 b10
 go_wp2_with fail
 refine (raw_any _ _ _ b (by simp [be4_length]; omega) A c w10 H10.out HR10.out).mono ?_
 rintro e w11 ⟨rfl, h11, b11⟩
 have H11 : Hid (Wr w11 w2.heap.size w2.heap.size (wrapL 169 b)) := h11
 have B11 : Hid (Below w2.heap.size w2 w11) := B10.out.trans b11
 clear h11 b11
 go_wp2_with fail
 have B11w : Hid (Below w0.heap.size w0 w11) := B2.out.trans (B11.out.mono B2.out.size)
 refine (bytes_any _ _ _ (by rw [wrapL_length]; omega) w11 H11.out w0.heap.size B11w.out.size).mono ?_
 rintro e w12 ⟨A12, c12, rfl, o12, b12⟩
 have O12 := hid o12
 have B12 : Hid (Below w0.heap.size w0 w12) := B11w.out.trans (b12.mono B11w.out.size)
 clear o12 b12
 go_wp2_with fail
 go_ret2
 exact ⟨A12, c12, rfl, own_less O12.out BB.out.size, BB.out.trans (B12.out.mono BB.out.size)⟩
def encR (r : Rc) : List UInt8 := if checkN r = 0 then recN r.kind.toNat r.off.toNat r.time.toNat r.pid.toNat r.seq.toNat r.key r.val else []
set_option maxHeartbeats 4000000 in
theorem encode_bad (w : World) (r : Rc) (h : checkN r ≠ 0) : Calls Tryz.prog 54 #[.agg r.cells] w fun e w' => e = .returned (.tuple #[.slice none 0 0, .int .i64 (checkN r)]) /\ Below w.heap.size w w' := by
 have hc := fun w => check_any w r
 have g1 : (checkN r != 0) = true := by simpa using h
 have HC := hid hc
 clear hc h
 obtain ⟨kind, off, time, pid, seq, key, val⟩ := r
 generalize checkN _ = ck at HC g1 ⊢
 unfold Rc.cells at HC ⊢
 go_enter Tryz.func54, Tryz.ntmps54
 go_wp2_with fail
 refine (HC.out _).mono ?_
 rintro e wc ⟨rfl, bc0⟩
 have BC : Hid (Below w.heap.size w wc) := hid (((Below.refl _ _).alloc (Nat.le_refl _) _).trans (bc0.mono (by simp)))
 clear bc0
 go_wp2_with fail
 go_ret2
 exact ⟨rfl, BC.out⟩
theorem encode_rec (w : World) (r : Rc) : Calls Tryz.prog 54 #[.agg r.cells] w fun e w' => ∃ A c, e = .returned (.tuple #[.slice A (encR r).length c, .int .i64 (checkN r)]) /\ w'.ownsRow w.heap.size 5 1 (.slice A (encR r).length c) (encR r).length (bc (encR r)) /\ Below w.heap.size w w' := by
 by_cases h : checkN r = 0
 ·obtain ⟨kind, off, time, pid, seq, hr, hg⟩ := good_of h
  have he : encR r = recN kind off time pid seq r.key r.val := by
   rw [encR, if_pos h]
   have h1 : r.kind = (kind : Nat) := by rw [hr]
   have h2 : r.off = (off : Nat) := by rw [hr]
   have h3 : r.time = (time : Nat) := by rw [hr]
   have h4 : r.pid = (pid : Nat) := by rw [hr]
   have h5 : r.seq = (seq : Nat) := by rw [hr]
   rw [h1, h2, h3, h4, h5]
   rfl
  have hk : checkN ⟨(kind : Nat), (off : Nat), (time : Nat), (pid : Nat), (seq : Nat), r.key, r.val⟩ = 0 := by rw [<- hr]; exact h
  have hh := encode_good w kind off time pid seq r.key r.val hg hk
  rw [he, h]
  rw [<- hr] at hh
  exact hh
 ·have he : encR r = [] := if_neg h
  rw [he]
  refine (encode_bad w r h).mono ?_
  rintro e w' ⟨rfl, hb⟩
  exact ⟨none, 0, rfl, World.ownsRow_nil _ _ _ _, hb⟩
set_option maxHeartbeats 4000000 in
theorem size_any (w : World) (r : Rc) : Calls Tryz.prog 16 #[.agg r.cells] w fun e w' => e = .returned (.int .i64 ((encR r).length : Nat)) /\ Below w.heap.size w w' := by
 have he := fun w => encode_rec w r
 have HE := hid he
 clear he
 generalize encR r = l at HE ⊢
 generalize checkN r = ck at HE
 obtain ⟨kind, off, time, pid, seq, key, val⟩ := r
 unfold Rc.cells at HE ⊢
 go_enter Tryz.func16, Tryz.ntmps16
 go_wp2_with fail
 refine (HE.out _).mono ?_
 rintro e w1 ⟨A, c, rfl, ho, hb⟩
 have HB := hid hb
 clear ho hb
 go_wp2_with fail
 go_ret
 exact ⟨rfl, ((Below.refl _ _).alloc (Nat.le_refl _) _).trans (HB.out.mono (by simp))⟩
end Go.Proofs.YtendlmdmbkcdnaaGreatDoor.rc
namespace Go.Proofs.YtendlmdmbkcdnaaGreatDoor.sg
open Go.RowKit oc rc
open Go.Lib (itoa decDigits nDigits)
theorem nDigits_le : ∀ (k u : Nat), 1 <= k -> u < 10 ^ k -> nDigits u <= k
 | 0, u, h, _ => absurd h (by omega)
 | k + 1, u, _, h => by
  by_cases h1 : u < 10
  ·rw [Lib.nDigits_small h1]; omega
  ·rw [Lib.nDigits_big h1]
   rcases Nat.eq_zero_or_pos k with hk | hk
   ·subst hk
    simp at h
    omega
   ·have := nDigits_le k (u / 10) hk (by rw [Nat.pow_succ] at h; omega)
    omega
theorem decDigits_mem (u : Nat) : ∀ c ∈ decDigits u, 48 <= c.toNat /\ c.toNat <= 57 := by
 induction u using Nat.strongRecOn with
 | _ u ih =>
  intro c hc
  rw [decDigits] at hc
  split at hc
  ·rw [List.mem_singleton] at hc
   subst hc
   rw [UInt8.toNat_ofNat']
   omega
  ·rcases List.mem_append.1 hc with hc | hc
   ·exact ih (u / 10) (by omega) c hc
   ·rw [List.mem_singleton] at hc
    subst hc
    rw [UInt8.toNat_ofNat']
    omega
theorem decDigits_ne (u : Nat) : decDigits u ≠ [] := by
 intro e
 have h1 := Lib.decDigits_length u
 have h2 := Lib.nDigits_pos u
 rw [e] at h1
 simp at h1
 omega
theorem itoa_nat {n : Int} (h : 0 <= n) : itoa n = decDigits n.toNat := by unfold itoa; rw [if_neg (by omega)]
theorem itoa_len {n : Int} (h : okNum n = true) : (itoa n).length <= 10 := by
 simp only [okNum, Bool.and_eq_true, decide_eq_true_eq] at h
 rw [itoa_nat h.1, Lib.decDigits_length]
 exact nDigits_le 10 _ (by decide) (by omega)
theorem itoa_mem {n : Int} (h : okNum n = true) : ∀ c ∈ itoa n, 48 <= c.toNat /\ c.toNat <= 57 := by
 simp only [okNum, Bool.and_eq_true, decide_eq_true_eq] at h
 rw [itoa_nat h.1]
 exact decDigits_mem _
def numOf (l : List UInt8) : Nat := l.foldl (fun n c => n * 10 + (c.toNat - 48)) 0
theorem numOf_dec (u : Nat) : numOf (decDigits u) = u := by
 induction u using Nat.strongRecOn with
 | _ u ih =>
  rw [decDigits]
  split
  ·simp only [numOf, List.foldl_cons, List.foldl_nil]
   rw [UInt8.toNat_ofNat']
   omega
  ·simp only [numOf, List.foldl_append, List.foldl_cons, List.foldl_nil]
   have := ih (u / 10) (by omega)
   rw [numOf] at this
   rw [this, UInt8.toNat_ofNat']
   omega
theorem itoa_inj {a b : Int} (ha : okNum a = true) (hb : okNum b = true) (h : itoa a = itoa b) : a = b := by
 simp only [okNum, Bool.and_eq_true, decide_eq_true_eq] at ha hb
 rw [itoa_nat ha.1, itoa_nat hb.1] at h
 have := congrArg numOf h
 rw [numOf_dec, numOf_dec] at this
 omega
theorem sb_list (l : List UInt8) : (Sb l).data.toList = l := by simp [Sb]
theorem sb_size (l : List UInt8) : (Sb l).size = l.length := by simp [Sb, ByteArray.size]
theorem sb_inj {a b : List UInt8} (h : Sb a = Sb b) : a = b := by
 have := congrArg (fun s => s.data.toList) h
 simpa [sb_list] using this
theorem good_sb {l : List UInt8} (h0 : 0 < l.length) (h1 : l.length <= 32) (h2 : ∀ c, l[0]? = some c -> c.toNat ≠ 46 /\ c.toNat ≠ 45 /\ c.toNat ≠ 95) (h3 : ∀ c ∈ l, okc c.toNat) : GoodN (Sb l) :=
 ⟨by rw [sb_size]; exact h0, by rw [sb_size]; exact h1, by rw [sb_list]; exact h2, by rw [sb_list]; exact h3⟩
theorem okc_digit {c : UInt8} (h : 48 <= c.toNat /\ c.toNat <= 57) : okc c.toNat := Or.inr (Or.inl h)
theorem good_t {n : Int} (hn : okNum n = true) {e : List UInt8} (he : e.length <= 21) (hc : ∀ c ∈ e, okc c.toNat) : GoodN (Sb ([116] ++ itoa n ++ e)) := by
 have hl := itoa_len hn
 refine good_sb (by simp) (by simp; omega) (fun c h => ?_) (fun c h => ?_)
 ·simp at h
  subst h
  decide
 ·rcases List.mem_append.1 h with h | h
  ·rcases List.mem_append.1 h with h | h
   ·rw [List.mem_singleton] at h
    subst h
    decide
   ·exact okc_digit (itoa_mem hn c h)
  ·exact hc c h
theorem good_name {t s : Int} (ht : okNum t = true) (hs : okNum s = true) : GoodN (Sb (nameN t s)) := by
 have hl := itoa_len hs
 have h := good_t ht (e := [46] ++ itoa s ++ [46, 115, 101, 103]) (by simp; omega) (fun c hc => by
  rcases List.mem_append.1 hc with hc | hc
  ·rcases List.mem_append.1 hc with hc | hc
   ·rw [List.mem_singleton] at hc
    subst hc
    decide
   ·exact okc_digit (itoa_mem hs c hc)
  ·simp at hc
   rcases hc with rfl | rfl | rfl | rfl <;> decide)
 simpa [nameN] using h
theorem digits_split {a b x y : List UInt8} (ha : ∀ c ∈ a, 48 <= c.toNat /\ c.toNat <= 57) (hb : ∀ c ∈ b, 48 <= c.toNat /\ c.toNat <= 57) (h : a ++ 46 :: x = b ++ 46 :: y) : a = b /\ x = y := by
 induction a generalizing b with
 | nil =>
  cases b with
  | nil => simpa using h
  | cons d b =>
   simp only [List.nil_append, List.cons_append, List.cons.injEq] at h
   have := hb d List.mem_cons_self
   rw [<- h.1] at this
   exact absurd this (by decide)
 | cons c a ih =>
  cases b with
  | nil =>
   simp only [List.nil_append, List.cons_append, List.cons.injEq] at h
   have := ha c List.mem_cons_self
   rw [h.1] at this
   exact absurd this (by decide)
  | cons d b =>
   simp only [List.cons_append, List.cons.injEq] at h
   have := ih (fun c hc => ha c (List.mem_cons_of_mem _ hc)) (fun c hc => hb c (List.mem_cons_of_mem _ hc)) h.2
   exact ⟨by rw [h.1, this.1], this.2⟩
theorem nameN_eq (t s : Int) : nameN t s = 116 :: (itoa t ++ 46 :: (itoa s ++ 46 :: [115, 101, 103])) := by simp [nameN]
theorem encR_len {r : Rc} (h : checkN r = 0) : 10 <= (encR r).length /\ (encR r).length <= 1148 := by
 obtain ⟨kind, off, time, pid, seq, hr, hg⟩ := good_of h
 have hv := hg.v
 have hk := hg.k
 have hsl := short_len r.val.data.toList
 have hvl : r.val.data.toList.length = r.val.size := by simp
 have hkl : r.key.data.toList.length = r.key.size := by simp
 rw [encR, if_pos h]
 generalize r.kind.toNat = a0
 generalize r.off.toNat = a1
 generalize r.time.toNat = a2
 generalize r.pid.toNat = a3
 generalize r.seq.toNat = a4
 have h1 := uv_length 9 a1
 have h2 := uv_length 9 a2
 have h3 := uv_length 9 a3
 have h4 := uv_length 9 a4
 have h5 := uv_length 9 r.key.size
 rw [recN, wrapL, bodyN]
 simp only [List.length_append, List.length_cons, List.length_nil, be4_len]
 split <;> simp only [List.length_append, List.length_nil] <;> omega
end Go.Proofs.YtendlmdmbkcdnaaGreatDoor.sg
namespace Go.Proofs.YtendlmdmbkcdnaaGreatDoor.sg
open Go.RowKit Go.Maps Go.WideMaps oc rc gh dk
open Go.Lib (hid)
set_option maxRecDepth 100000
def inf0 (topic seg base : Nat) : Inf := ⟨topic, seg, base, 21, 0, (base : Int) - 1, false⟩
def CreOut (w : World) (G : Gh) (τ d : Nat) (limit : Int) (topic seg base : Nat) (q : Int) (l : List Fil) (no L : Nat) (e : Ending) (w' : World) : Prop :=
 ∃ g f G', e = .returned (.tuple #[.pointer (some ⟨g, 0, none⟩), .int .i64 0]) /\ w.heap.size <= g /\ w.heap.size <= f /\ SegAt w' G' τ g d (seg0 limit (inf0 topic seg base) (extN 0 (headN topic seg base))) /\
  DK w' G' d q (⟨Sb (nameN topic seg), f, fSync (fApp ⟨[], [], []⟩ (headN topic seg base))⟩ :: l) (no + 3) (L + 2) /\ Fx CK G G' w w' /\ Fin G' w'
theorem headN_len (t s b : Nat) : (headN t s b).length = 21 := by simp [headN, hd1, be8_length, be4_len]
set_option maxHeartbeats 4000000 in
theorem create_any (w : World) (G : Gh) (τ d : Nat) (limit : Int) (topic seg base : Nat) (q : Int) (l : List Fil) (no L : Nat) (ht : TabG w G) (h1 : topic < 1073741824) (h2 : seg < 1073741824) (hb : base <= 1099511627776) (hl0 : 256 <= limit) (hl1 : limit <= 65536)
  (hk : DK w G d q l no L) (hf : Fin G w) (hno : no + 2 <= 1099511627776) (hL : L + 2 <= 1073741824) (hs : ∀ y ∈ l, y.name ≠ Sb (nameN topic seg)) (hl : l.length < 65536) (hu : (sumF l + 21 : Nat) <= q) :
  Calls Tryz.prog 95 #[.pointer (some ⟨d, 0, none⟩), .int .i64 (topic : Int), .int .i64 (seg : Int), .int .i64 (base : Int), .int .i64 limit] w (CreOut w G τ d limit topic seg base q l no L) := by
 have o1 : okNum (topic : Int) = true := by simp [okNum]; omega
 have o2 : okNum (seg : Int) = true := by simp [okNum]; omega
 have HRF := hid (fun W => refused_ok W d topic seg limit o1 o2 hl0 hl1)
 have HNM := hid (fun W hT => name_is W topic seg o1 o2 hT _ rfl)
 have HGN := hid (good_name o1 o2)
 have HHD := hid (fun W => head_any W topic seg base (by omega) (by omega) (by omega))
 have HHL := hid (headN_len topic seg base)
 obtain ⟨nm, hnm⟩ : ∃ s, Sb (nameN topic seg) = s := ⟨_, rfl⟩
 obtain ⟨hd, hhd⟩ : ∃ s, headN topic seg base = s := ⟨_, rfl⟩
 have HEQ := hid hhd
 have HEN := hid hnm
 rw [hnm] at HNM HGN hs
 rw [hhd] at HHD HHL
 have g1 : decide ((base : Int) < 0) = false := decide_eq_false (by omega)
 have g2 : decide ((1099511627776 : Int) < (base : Int)) = false := decide_eq_false (by omega)
 have e1 : IntKind.i64.wrap ((base : Int) - 1) = (base : Int) - 1 := by rw [IntKind.wrap_i64]; omega
 have HT := hid ht
 have HK := hid hk
 have HF := hid hf
 have HNO := hid hno
 have HLL := hid hL
 have HS := hid hs
 have HLN := hid hl
 have HU := hid hu
 clear ht h1 h2 hb hl0 hl1 hk hf hno hL hs hl hu o1 o2 hnm hhd
 go_enter Tryz.func95, Tryz.ntmps95
 go_wp2_with fail
 refine (HRF.out w).mono ?_
 rintro e w0 ⟨rfl, hw0⟩
 rw [hw0]
 clear hw0
 go_wp2_with fail
 refine (HNM.out w HT.out.1).mono ?_
 rintro e w1 ⟨rfl, hb1⟩
 have HB1 := hid hb1
 clear hb1
 go_wp2_with fail
 refine (dk_create w1 G d q l no L (HK.out.below HB1.out) (HF.out.more HB1.out.size) (by have := HNO.out; omega) HLL.out nm HGN.out HS.out HLN.out).mono ?_
 rintro e w2 ⟨f, hf2, G2, rfl, hk2, hx2, hfn2, hr2⟩
 have HF2 : Hid (w.heap.size <= f) := hid (Nat.le_trans HB1.out.size hf2)
 have HK2 := hid hk2
 have HX2 : Hid (Fx CK G G2 w w2) := hid ((Fx.below HB1.out).trans hx2)
 have HFN2 := hid hfn2
 clear hf2 hk2 hx2 hfn2 hr2
 go_wp2_with fail
 refine (HHD.out w2).mono ?_
 rintro e w3 ⟨A3, c3, rfl, o3, b3⟩
 have HO3 := hid (own_less o3 (Nat.zero_le _))
 have HR3 : Hid (RowR w3 G2 5 1 (.slice A3 hd.length c3) hd.length (bc hd) none) := hid ⟨own_less o3 (Nat.zero_le _), fun b hb => HFN2.out b (o3.lt b hb).1⟩
 have HB3 := hid b3
 clear o3 b3
 go_wp2_with fail
 refine (dk_append w3 G2 d q ⟨nm, f, ⟨[], [], []⟩⟩ l (no + 1) (L + 2) (HK2.out.below HB3.out) (HFN2.out.more HB3.out.size) (by have := HNO.out; omega) A3 c3 hd (by have := HHL.out; omega) (RB.of_own HO3.out) (by have := HHL.out; have := HU.out; simp only [sumF, List.map_cons, List.sum_cons, List.length_nil] at this ⊢; omega)).mono ?_
 rintro e w4 ⟨G4, rfl, hk4, hx4, hfn4, hr4⟩
 have HK4 := hid hk4
 have HX4 : Hid (Fx CK G2 G4 w3 w4) := hid hx4
 have HFN4 := hid hfn4
 have HR4 := hid (HR3.out.keep hx4 ck_other)
 clear hk4 hx4 hfn4 hr4
 go_wp2_with fail
 refine (dk_sync w4 G4 d q ⟨nm, f, fApp ⟨[], [], []⟩ hd⟩ l (no + 1 + 1) (L + 2) HK4.out HFN4.out (by have := HNO.out; omega)).mono ?_
 rintro e w5 ⟨G5, rfl, hk5, hx5, hfn5, hr5⟩
 have HK5 := hid hk5
 have HX5 : Hid (Fx CK G G5 w w5) := hid (((HX2.out.trans (Fx.below HB3.out)).trans HX4.out).trans hx5)
 have HFN5 := hid hfn5
 have HR5 := hid (HR4.out.keep hx5 ck_other)
 clear hk5 hx5 hfn5 hr5
 have hmd := fun c2 => made_nil w5 G5 τ d limit A3 c3 hd (inf0 topic seg base) c2 HFN5.out (RB.of_own HR5.out.1) (by have := HHL.out; omega)
 dsimp only [Inf.cells, inf0] at hmd
 simp only [Int.natCast_zero] at hmd
 have HMD := hid hmd
 clear hmd
 go_wp2_with fail
 refine (HMD.out _).mono ?_
 rintro e w6 ⟨v, rfl, g, G6, rfl, m1, m2, m3, m4, m5, m6⟩
 have M1 := hid m1
 have M2 := hid m2
 have M3 := hid m3
 have M4 := hid m4
 have M5 := hid m5
 have M6 := hid m6
 clear m1 m2 m3 m4 m5 m6
 go_wp2_with fail
 go_ret2
 have he := HEQ.out
 have hn := HEN.out
 subst he
 subst hn
 exact ⟨g, f, G6, rfl, Nat.le_trans HX5.out.size M1.out, HF2.out, M2.out, HK5.out.keep (C := CN) M4.out (fun _ _ h => h.elim) (by rw [M6.out]; exact HFN5.out.ow), HX5.out.trans (M4.out.mono (fun _ _ h => h.elim)), M5.out⟩
def appS (X : SegS) (off : Int) (b : List UInt8) : SegS := ⟨X.limit, { X.i with size := X.i.size + b.length, count := X.i.count + 1, last := off }, extN X.sum b, X.n + 1⟩
def SApOut (w : World) (G : Gh) (τ g d : Nat) (X : SegS) (r : Rc) (q : Int) (x : Fil) (l : List Fil) (no L : Nat) (e : Ending) (w' : World) : Prop :=
 ∃ G', e = .returned (.tuple #[.int .i64 X.i.size, .int .i64 0]) /\ SegAt w' G' τ g d (appS X r.off (encR r)) /\ DK w' G' d q (⟨x.name, x.blk, fApp x.st (encR r)⟩ :: l) (no + 1) L /\ Fx (CKS τ) G G' w w' /\ Fin G' w'
structure ApH (X : SegS) (r : Rc) (x : Fil) (q : Int) (l : List Fil) : Prop where
 topic : okNum X.i.topic = true
 seg : okNum X.i.seg = true
 name : x.name = fileN X.i
 open_ : X.i.sealed = false
 good : checkN r = 0
 order : X.i.last < r.off
 size0 : 0 <= X.i.size
 size1 : X.i.size <= 1073741824
 lim0 : 0 <= X.limit
 lim1 : X.limit <= 1073741824
 roll : X.i.count = 0 \/ X.i.size + (encR r).length + 17 <= X.limit
 count : X.i.count <= 1073741824
 n : X.n <= 1073741824
 sum : X.sum < 4294967296
 room : (sumF (x :: l) + (encR r).length : Nat) <= q
set_option maxHeartbeats 8000000 in
theorem append_any (w : World) (G : Gh) (τ g d : Nat) (X : SegS) (r : Rc) (q : Int) (x : Fil) (l : List Fil) (no L : Nat) (h : SegAt w G τ g d X) (ht : TabG w G) (hk : DK w G d q (x :: l) no L) (hf : Fin G w) (hno : no <= 1099511627776) (H : ApH X r x q l) :
  Calls Tryz.prog 51 #[.pointer (some ⟨g, 0, none⟩), .agg r.cells] w (SApOut w G τ g d X r q x l no L) := by
 have hS := h
 obtain ⟨mp, ov, hV, hM, hR⟩ := h
 have HE := hid (fun W => encode_rec W r)
 have HEL := hid (encR_len H.good)
 unfold SApOut
 have HRM := hid H.room
 have hroll := H.roll
 obtain ⟨b, hb⟩ : ∃ b, encR r = b := ⟨_, rfl⟩
 rw [hb] at HE HEL HRM hroll ⊢
 have hgd := H.good
 rw [hgd] at HE
 have HFL := hid (fun W (hW : Below w.heap.size w W) => file_any W G τ g d X (hS.below hW) (tab_below ht.1 hW) H.topic H.seg x.name H.name.symm)
 obtain ⟨kind, off, time, pid, seq, key, val⟩ := r
 have go1 : decide (off <= X.i.last) = false := decide_eq_false (by have := H.order; dsimp only at this; omega)
 have el := HEL.out
 have hs0 := H.size0
 have hs1 := H.size1
 have hl0 := H.lim0
 have hl1 := H.lim1
 have hct := H.count
 have e1 : IntKind.i64.wrap (X.i.size + (b.length : Int)) = X.i.size + (b.length : Int) := by rw [IntKind.wrap_i64]; omega
 have e2 : IntKind.i64.wrap (X.i.size + (b.length : Int) + 17) = X.i.size + (b.length : Int) + 17 := by rw [IntKind.wrap_i64]; omega
 have e3 : IntKind.i64.wrap ((X.i.count : Int) + 1) = (X.i.count : Int) + 1 := by rw [IntKind.wrap_i64]; omega
 have hc0 : (X.i.count : Int) = 0 \/ ((0 : Int) < (X.i.count : Int) /\ decide (X.limit < X.i.size + (b.length : Int) + 17) = false) := by
  rcases Nat.eq_zero_or_pos X.i.count with h0 | h0
  ·exact Or.inl (by omega)
  ·rcases hroll with h1 | h1
   ·omega
   ·exact Or.inr ⟨by omega, decide_eq_false (by omega)⟩
 have HC0 := hid hc0
 have HV := hid hV
 have HM := hid hM
 have HRW := hid hR
 have HT := hid ht
 have HK := hid hk
 have HF := hid hf
 have HNO := hid hno
 have HN := hid H.n
 have HSU := hid H.sum
 have HS0 := hid hs0
 have HS1 := hid hs1
 have hse := H.open_
 clear hV hM hR ht hk hf hno H hb hgd el hs0 hs1 hl0 hl1 hct hc0 hroll hS
 unfold Rc.cells at HE ⊢
 go_enter Tryz.func51, Tryz.ntmps51
 obtain ⟨w0, hw0⟩ : ∃ y, w.alloc (.cells #[.int .i64 kind, .int .i64 off, .int .i64 time, .int .i64 pid, .int .i64 seq, .string key, .string val] 47) = y := ⟨_, rfl⟩
 have HB0 : Hid (Below w.heap.size w w0) := by rw [<- hw0]; exact hid ((Below.refl _ _).alloc (Nat.le_refl _) _)
 have HK0 : Hid (Blk w0 w.heap.size 47 #[.int .i64 kind, .int .i64 off, .int .i64 time, .int .i64 pid, .int .i64 seq, .string key, .string val]) := by rw [<- hw0]; exact hid (Blk.new w _ _)
 have HV0 := hid (HV.out.keep (C := CN) (Fx.below HB0.out) (fun h => h))
 have c8 : w0.cell? ⟨g, 8, none⟩ = some (.bool false) := (HV0.out.cell 8).trans (by rw [<- hse]; rfl)
 have kE : ∀ (j : Nat) (v : Value), [Value.int .i64 kind, .int .i64 off, .int .i64 time, .int .i64 pid, .int .i64 seq, .string key, .string val][j]? = some v -> w0.cell? (Addr.add ⟨w.heap.size, 0, none⟩ j) = some v := fun j v hj => by
  rw [add_flat, HK0.out.cell (0 + j)]
  simpa using hj
 go_wp2_with (first
  | ((with_reducible refine at_op ⟨some 18, .load 47 (.tmp 3), _, _, _, _⟩ ?_); refine wpList_load_list rfl 47 (.tmp 3) rfl ⟨w.heap.size, 0, none⟩ rfl [Value.int .i64 kind, .int .i64 off, .int .i64 time, .int .i64 pid, .int .i64 seq, .string key, .string val] kE _ Tryz.underlying47 rfl (by kernel_rfl) ?_)
  | fail)
 clear hw0 kE c8
 refine (HE.out w0).mono ?_
 rintro e w1 ⟨A1, c1, rfl, o1, b1⟩
 have HB1 : Hid (Below w.heap.size w w1) := hid (HB0.out.trans (b1.mono HB0.out.size))
 have HO1 : Hid (RowR w1 G 5 1 (.slice A1 b.length c1) b.length (bc b) none) := hid ⟨own_less o1 (Nat.zero_le _), fun z hz => HF.out z (Nat.le_trans HB0.out.size (o1.lt z hz).1)⟩
 have HKR1 := hid (HK0.out.below b1 HK0.out.lt)
 have HV1 := hid (HV.out.keep (C := CN) (Fx.below HB1.out) (fun h => h))
 have k1 := fun d' os => cell_regrown (show w1.cell? ⟨w.heap.size, 1, none⟩ = some (.int .i64 off) from (HKR1.out.cell 1).trans rfl) d' os
 have k7 := fun d' os => cell_regrown (show w1.cell? ⟨g, 7, none⟩ = some (.int .i64 X.i.last) from (HV1.out.cell 7).trans rfl) d' os
 clear o1 b1 HE HK0 HV0
 go_wp2_with fail
 refine wp_region_quiet_below (by kernel_rfl) (by kernel_rfl) ?_
 repeat (first | go_big_quiet_skip | (go_big_quiet_want; go_big_quiet_op; go_big_quiet_on))
 refine wpQuiet_nil ?_
 intro w2 hw'
 obtain ⟨⟨dq, osq⟩, hw''⟩ := hw'
 have HBq : Hid (Below w1.heap.size w1 w2) := by rw [hw'']; exact below_regrown w1 dq osq
 clear hw'' k1 k7
 have HB2 : Hid (Below w.heap.size w w2) := hid (HB1.out.trans (HBq.out.mono HB1.out.size))
 have HO2 := hid (HO1.out.keep (C := CN) (Fx.below HBq.out) (fun h => h))
 have HKR2 := hid (HKR1.out.below HBq.out HKR1.out.lt)
 have HV2 := hid (HV1.out.keep (C := CN) (Fx.below HBq.out) (fun h => h))
 have k6 := fun d' os => cell_regrown (show w2.cell? ⟨g, 6, none⟩ = some (.int .i64 (X.i.count : Int)) from (HV2.out.cell 6).trans rfl) d' os
 have k5 := fun d' os => cell_regrown (show w2.cell? ⟨g, 5, none⟩ = some (.int .i64 X.i.size) from (HV2.out.cell 5).trans rfl) d' os
 have k1 := fun d' os => cell_regrown (show w2.cell? ⟨g, 1, none⟩ = some (.int .i64 X.limit) from (HV2.out.cell 1).trans rfl) d' os
 clear HB1 HO1 HKR1 HV1 HV2 go1
 rcases HC0.out with hc | ⟨hc, hd⟩
 ·have hc2 : decide ((0 : Int) < (X.i.count : Int)) = false := decide_eq_false (by omega)
  go_wp2_with fail
  refine wp_region_quiet_below (by kernel_rfl) (by kernel_rfl) ?_
  repeat (first | go_big_quiet_skip | (go_big_quiet_want; go_big_quiet_op; go_big_quiet_on))
  refine wpQuiet_nil ?_
  intro w3 hw'
  obtain ⟨⟨dq, osq⟩, hw''⟩ := hw'
  have HB3 : Hid (Below w.heap.size w w3) := by rw [hw'']; exact HB2.out.trans ((below_regrown w2 dq osq).mono HB2.out.size)
  have HO3 : Hid (RowR w3 G 5 1 (.slice A1 b.length c1) b.length (bc b) none) := by rw [hw'']; exact HO2.out.keep (C := CN) (Fx.below (below_regrown w2 dq osq)) (fun h => h)
  have HKR3 : Hid (Blk w3 w.heap.size 47 #[.int .i64 kind, .int .i64 off, .int .i64 time, .int .i64 pid, .int .i64 seq, .string key, .string val]) := by rw [hw'']; exact HKR2.out.below (below_regrown w2 dq osq) HKR2.out.lt
  clear hw'' k1 k6 k5 HBq HB2 HO2 HKR2
  clear hc hc2
  have q1 : QC Tryz.prog w3 108 #[.pointer (some ⟨g, 0, none⟩)] (.string x.name) := below_qc (fun W hb => HFL.out W (HB3.out.trans (hb.mono HB3.out.size)))
  have k0 := fun d' os => cell_regrown (show w3.cell? ⟨g, 0, none⟩ = some (.pointer (some ⟨d, 0, none⟩)) from ((HV.out.1.below HB3.out HV.out.1.lt).cell 0).trans rfl) d' os
  go_wp2_with fail
  refine wp_quiet_tail 7 (by kernel_rfl) (by kernel_rfl) (by kernel_rfl) ?_
  simp only [List.take, List.drop]
  repeat (first | go_big_quiet_skip | (go_big_quiet_want; go_big_quiet_op; first | go_big_quiet_on | (apply Exists.intro; refine ⟨fun _ => ?_, ?_⟩; · (first | with_reducible exact q1 _ _)); go_big_quiet_on))
  refine wpQuiet_nil ?_
  intro w4 hw'
  obtain ⟨⟨dq, osq⟩, hw''⟩ := hw'
  have HB4 : Hid (Below w.heap.size w w4) := by rw [hw'']; exact HB3.out.trans ((below_regrown w3 dq osq).mono HB3.out.size)
  have HO4 : Hid (RowR w4 G 5 1 (.slice A1 b.length c1) b.length (bc b) none) := by rw [hw'']; exact HO3.out.keep (C := CN) (Fx.below (below_regrown w3 dq osq)) (fun h => h)
  have HKR4 : Hid (BlkR w4 G w.heap.size 47 #[.int .i64 kind, .int .i64 off, .int .i64 time, .int .i64 pid, .int .i64 seq, .string key, .string val] none) := by rw [hw'']; exact ⟨HKR3.out.below (below_regrown w3 dq osq) HKR3.out.lt, HF.out _ (Nat.le_refl _)⟩
  clear hw'' q1 k0 HB3 HO3 HKR3
  go_wp2_with fail
  refine (dk_append w4 G d q x l no L (HK.out.below HB4.out) (HF.out.more HB4.out.size) HNO.out A1 c1 b (by have := HEL.out; omega) (RB.of_own HO4.out.1) HRM.out).mono ?_
  rintro e w5 ⟨G5, rfl, hk5, hx5, hf5, hr5⟩
  have HK5 := hid hk5
  have HX5 : Hid (Fx CK G G5 w w5) := hid ((Fx.below HB4.out).trans hx5)
  have HF5 := hid hf5
  have HO5 := hid (HO4.out.keep hx5 ck_other)
  have HKR5 := hid (HKR4.out.keep hx5 ck_other)
  have HS5 : Hid (SegV w5 G5 τ g d X mp ov) := hid ⟨HV.out.keep HX5.out ck_other, by obtain ⟨D, hm⟩ := HM.out; exact ⟨D, hm.keep HX5.out ck_other⟩, by obtain ⟨xs, hrw⟩ := HRW.out; exact ⟨xs, hrw.keep HX5.out ck_other⟩⟩
  have HT5 := hid (HT.out.keep HX5.out ck_other)
  have d5 : w5.cell? ⟨g, 5, none⟩ = some (.int .i64 X.i.size) := (HS5.out.1.cell 5).trans rfl
  clear hk5 hx5 hf5 hr5 HB4 HO4 HKR4
  go_wp2_with fail
  refine (note_any w5 G5 τ g d X ⟨mp, ov, HS5.out⟩ HF5.out HN.out X.i.size b.length (by have := HS0.out; omega) (by have := HS1.out; omega)).mono ?_
  rintro e w6 ⟨G6, rfl, hs6, hx6, hf6, ho6⟩
  obtain ⟨mp6, ov6, hs6⟩ := hs6
  have HS6 := hid hs6
  have HX6 := hid hx6
  have HF6 := hid hf6
  have HO6 := hid (HO5.out.keep hx6 (by rintro ⟨_, h | h | h⟩ <;> cases h))
  have HKR6 := hid (HKR5.out.keep hx6 (by rintro ⟨_, h | h | h⟩ <;> cases h))
  have HK6 := hid (HK5.out.keep hx6 (fun t r h => h.1) (by rw [ho6]; exact HF5.out.ow))
  have d9 : w6.cell? ⟨g, 9, none⟩ = some (.int .u32 (X.sum : Int)) := (HS6.out.1.cell 9).trans rfl
  clear hs6 hx6 hf6 ho6 d5
  go_wp2_with fail
  refine (extend_any X.sum HSU.out b (by have := HEL.out; omega) A1 c1 w6 (RB.of_own HO6.out.1)).mono ?_
  rintro e w7 ⟨rfl, hb7⟩
  have HS7 := hid (HS6.out.keep (C := CN) (Fx.below hb7) (fun h => h) (fun h => h) (fun h => h))
  have HX7 : Hid (Fx (CKS τ) G G6 w w7) := hid (((HX5.out.mono cks_k).trans (HX6.out.mono cks_s)).trans (Fx.below hb7))
  have HF7 := hid (HF6.out.more hb7.size)
  have HK7 := hid (HK6.out.below hb7)
  have r1 : w7.cell? ⟨w.heap.size, 1, none⟩ = some (.int .i64 off) := ((HKR6.out.1.below hb7 HKR6.out.1.lt).cell 1).trans rfl
  have hwg : w.heap.size ≠ g := by have := HV.out.1.lt; omega
  have d9' : w7.cell? ⟨g, 9, none⟩ = some (.int .u32 (X.sum : Int)) := (HS7.out.1.cell 9).trans rfl
  have f9 := HS7.out.1.frozen 9
  have d5 : w7.cell? ⟨g, 5, none⟩ = some (.int .i64 X.i.size) := (HS7.out.1.cell 5).trans rfl
  have f5 := HS7.out.1.frozen 5
  have d6 : w7.cell? ⟨g, 6, none⟩ = some (.int .i64 (X.i.count : Int)) := (HS7.out.1.cell 6).trans rfl
  have f6 := HS7.out.1.frozen 6
  have d7 : w7.cell? ⟨g, 7, none⟩ = some (.int .i64 X.i.last) := (HS7.out.1.cell 7).trans rfl
  have f7 := HS7.out.1.frozen 7
  clear hb7 d9 HX5 HX6 HF6 HK6 HS6 HO6 HKR6
  go_wp2_with fail
  go_ret2
  have hX8 : Fx (CR (some (τ, Part.seg))) G6 G6 w7 ((((w7.setCell ⟨g, 9, none⟩ (.int .u32 (extN X.sum b : Nat))).setCell ⟨g, 5, none⟩ (.int .i64 (X.i.size + (b.length : Int)))).setCell ⟨g, 6, none⟩ (.int .i64 ((X.i.count : Int) + 1))).setCell ⟨g, 7, none⟩ (.int .i64 off)) := (((Fx.set 9 _ HS7.out.1.2).trans (Fx.set 5 _ HS7.out.1.2)).trans (Fx.set 6 _ HS7.out.1.2)).trans (Fx.set 7 _ HS7.out.1.2)
  have hB8 : BlkR ((((w7.setCell ⟨g, 9, none⟩ (.int .u32 (extN X.sum b : Nat))).setCell ⟨g, 5, none⟩ (.int .i64 (X.i.size + (b.length : Int)))).setCell ⟨g, 6, none⟩ (.int .i64 ((X.i.count : Int) + 1))).setCell ⟨g, 7, none⟩ (.int .i64 off)) G6 g 205 (segC d (appS X off b) mp6 ov6) (some (τ, .seg)) := (((HS7.out.1.set 9 _).set 5 _).set 6 _).set 7 _
  refine ⟨G6, rfl, ⟨mp6, ov6, hB8, ?_, ?_⟩, HK7.out.keep hX8 (fun t r h => h.1) HF7.out.ow, HX7.out.trans (hX8.mono (fun t r hr => by obtain ⟨h1, rfl⟩ := hr; exact cks_seg t h1)), HF7.out.more hX8.size⟩
  ·obtain ⟨D, hm⟩ := HS7.out.2.1
   exact ⟨D, hm.keep hX8 (by rintro ⟨_, h⟩; cases h)⟩
  ·obtain ⟨xs, hrw⟩ := HS7.out.2.2
   exact ⟨xs, hrw.keep hX8 (by rintro ⟨_, h⟩; cases h)⟩
 ·have hcn : 0 < X.i.count := by omega
  go_wp2_with fail
  refine wp_region_quiet_below (by kernel_rfl) (by kernel_rfl) ?_
  repeat (first | go_big_quiet_skip | (go_big_quiet_want; go_big_quiet_op; go_big_quiet_on))
  refine wpQuiet_nil ?_
  intro w3 hw'
  obtain ⟨⟨dq, osq⟩, hw''⟩ := hw'
  have HB3 : Hid (Below w.heap.size w w3) := by rw [hw'']; exact HB2.out.trans ((below_regrown w2 dq osq).mono HB2.out.size)
  have HO3 : Hid (RowR w3 G 5 1 (.slice A1 b.length c1) b.length (bc b) none) := by rw [hw'']; exact HO2.out.keep (C := CN) (Fx.below (below_regrown w2 dq osq)) (fun h => h)
  have HKR3 : Hid (Blk w3 w.heap.size 47 #[.int .i64 kind, .int .i64 off, .int .i64 time, .int .i64 pid, .int .i64 seq, .string key, .string val]) := by rw [hw'']; exact HKR2.out.below (below_regrown w2 dq osq) HKR2.out.lt
  clear hw'' k1 k6 k5 HBq HB2 HO2 HKR2
  clear hc hcn
  have q1 : QC Tryz.prog w3 108 #[.pointer (some ⟨g, 0, none⟩)] (.string x.name) := below_qc (fun W hb => HFL.out W (HB3.out.trans (hb.mono HB3.out.size)))
  have k0 := fun d' os => cell_regrown (show w3.cell? ⟨g, 0, none⟩ = some (.pointer (some ⟨d, 0, none⟩)) from ((HV.out.1.below HB3.out HV.out.1.lt).cell 0).trans rfl) d' os
  go_wp2_with fail
  refine wp_quiet_tail 7 (by kernel_rfl) (by kernel_rfl) (by kernel_rfl) ?_
  simp only [List.take, List.drop]
  repeat (first | go_big_quiet_skip | (go_big_quiet_want; go_big_quiet_op; first | go_big_quiet_on | (apply Exists.intro; refine ⟨fun _ => ?_, ?_⟩; · (first | with_reducible exact q1 _ _)); go_big_quiet_on))
  refine wpQuiet_nil ?_
  intro w4 hw'
  obtain ⟨⟨dq, osq⟩, hw''⟩ := hw'
  have HB4 : Hid (Below w.heap.size w w4) := by rw [hw'']; exact HB3.out.trans ((below_regrown w3 dq osq).mono HB3.out.size)
  have HO4 : Hid (RowR w4 G 5 1 (.slice A1 b.length c1) b.length (bc b) none) := by rw [hw'']; exact HO3.out.keep (C := CN) (Fx.below (below_regrown w3 dq osq)) (fun h => h)
  have HKR4 : Hid (BlkR w4 G w.heap.size 47 #[.int .i64 kind, .int .i64 off, .int .i64 time, .int .i64 pid, .int .i64 seq, .string key, .string val] none) := by rw [hw'']; exact ⟨HKR3.out.below (below_regrown w3 dq osq) HKR3.out.lt, HF.out _ (Nat.le_refl _)⟩
  clear hw'' q1 k0 HB3 HO3 HKR3
  go_wp2_with fail
  refine (dk_append w4 G d q x l no L (HK.out.below HB4.out) (HF.out.more HB4.out.size) HNO.out A1 c1 b (by have := HEL.out; omega) (RB.of_own HO4.out.1) HRM.out).mono ?_
  rintro e w5 ⟨G5, rfl, hk5, hx5, hf5, hr5⟩
  have HK5 := hid hk5
  have HX5 : Hid (Fx CK G G5 w w5) := hid ((Fx.below HB4.out).trans hx5)
  have HF5 := hid hf5
  have HO5 := hid (HO4.out.keep hx5 ck_other)
  have HKR5 := hid (HKR4.out.keep hx5 ck_other)
  have HS5 : Hid (SegV w5 G5 τ g d X mp ov) := hid ⟨HV.out.keep HX5.out ck_other, by obtain ⟨D, hm⟩ := HM.out; exact ⟨D, hm.keep HX5.out ck_other⟩, by obtain ⟨xs, hrw⟩ := HRW.out; exact ⟨xs, hrw.keep HX5.out ck_other⟩⟩
  have HT5 := hid (HT.out.keep HX5.out ck_other)
  have d5 : w5.cell? ⟨g, 5, none⟩ = some (.int .i64 X.i.size) := (HS5.out.1.cell 5).trans rfl
  clear hk5 hx5 hf5 hr5 HB4 HO4 HKR4
  go_wp2_with fail
  refine (note_any w5 G5 τ g d X ⟨mp, ov, HS5.out⟩ HF5.out HN.out X.i.size b.length (by have := HS0.out; omega) (by have := HS1.out; omega)).mono ?_
  rintro e w6 ⟨G6, rfl, hs6, hx6, hf6, ho6⟩
  obtain ⟨mp6, ov6, hs6⟩ := hs6
  have HS6 := hid hs6
  have HX6 := hid hx6
  have HF6 := hid hf6
  have HO6 := hid (HO5.out.keep hx6 (by rintro ⟨_, h | h | h⟩ <;> cases h))
  have HKR6 := hid (HKR5.out.keep hx6 (by rintro ⟨_, h | h | h⟩ <;> cases h))
  have HK6 := hid (HK5.out.keep hx6 (fun t r h => h.1) (by rw [ho6]; exact HF5.out.ow))
  have d9 : w6.cell? ⟨g, 9, none⟩ = some (.int .u32 (X.sum : Int)) := (HS6.out.1.cell 9).trans rfl
  clear hs6 hx6 hf6 ho6 d5
  go_wp2_with fail
  refine (extend_any X.sum HSU.out b (by have := HEL.out; omega) A1 c1 w6 (RB.of_own HO6.out.1)).mono ?_
  rintro e w7 ⟨rfl, hb7⟩
  have HS7 := hid (HS6.out.keep (C := CN) (Fx.below hb7) (fun h => h) (fun h => h) (fun h => h))
  have HX7 : Hid (Fx (CKS τ) G G6 w w7) := hid (((HX5.out.mono cks_k).trans (HX6.out.mono cks_s)).trans (Fx.below hb7))
  have HF7 := hid (HF6.out.more hb7.size)
  have HK7 := hid (HK6.out.below hb7)
  have r1 : w7.cell? ⟨w.heap.size, 1, none⟩ = some (.int .i64 off) := ((HKR6.out.1.below hb7 HKR6.out.1.lt).cell 1).trans rfl
  have hwg : w.heap.size ≠ g := by have := HV.out.1.lt; omega
  have d9' : w7.cell? ⟨g, 9, none⟩ = some (.int .u32 (X.sum : Int)) := (HS7.out.1.cell 9).trans rfl
  have f9 := HS7.out.1.frozen 9
  have d5 : w7.cell? ⟨g, 5, none⟩ = some (.int .i64 X.i.size) := (HS7.out.1.cell 5).trans rfl
  have f5 := HS7.out.1.frozen 5
  have d6 : w7.cell? ⟨g, 6, none⟩ = some (.int .i64 (X.i.count : Int)) := (HS7.out.1.cell 6).trans rfl
  have f6 := HS7.out.1.frozen 6
  have d7 : w7.cell? ⟨g, 7, none⟩ = some (.int .i64 X.i.last) := (HS7.out.1.cell 7).trans rfl
  have f7 := HS7.out.1.frozen 7
  clear hb7 d9 HX5 HX6 HF6 HK6 HS6 HO6 HKR6
  go_wp2_with fail
  go_ret2
  have hX8 : Fx (CR (some (τ, Part.seg))) G6 G6 w7 ((((w7.setCell ⟨g, 9, none⟩ (.int .u32 (extN X.sum b : Nat))).setCell ⟨g, 5, none⟩ (.int .i64 (X.i.size + (b.length : Int)))).setCell ⟨g, 6, none⟩ (.int .i64 ((X.i.count : Int) + 1))).setCell ⟨g, 7, none⟩ (.int .i64 off)) := (((Fx.set 9 _ HS7.out.1.2).trans (Fx.set 5 _ HS7.out.1.2)).trans (Fx.set 6 _ HS7.out.1.2)).trans (Fx.set 7 _ HS7.out.1.2)
  have hB8 : BlkR ((((w7.setCell ⟨g, 9, none⟩ (.int .u32 (extN X.sum b : Nat))).setCell ⟨g, 5, none⟩ (.int .i64 (X.i.size + (b.length : Int)))).setCell ⟨g, 6, none⟩ (.int .i64 ((X.i.count : Int) + 1))).setCell ⟨g, 7, none⟩ (.int .i64 off)) G6 g 205 (segC d (appS X off b) mp6 ov6) (some (τ, .seg)) := (((HS7.out.1.set 9 _).set 5 _).set 6 _).set 7 _
  refine ⟨G6, rfl, ⟨mp6, ov6, hB8, ?_, ?_⟩, HK7.out.keep hX8 (fun t r h => h.1) HF7.out.ow, HX7.out.trans (hX8.mono (fun t r hr => by obtain ⟨h1, rfl⟩ := hr; exact cks_seg t h1)), HF7.out.more hX8.size⟩
  ·obtain ⟨D, hm⟩ := HS7.out.2.1
   exact ⟨D, hm.keep hX8 (by rintro ⟨_, h⟩; cases h)⟩
  ·obtain ⟨xs, hrw⟩ := HS7.out.2.2
   exact ⟨xs, hrw.keep hX8 (by rintro ⟨_, h⟩; cases h)⟩
end Go.Proofs.YtendlmdmbkcdnaaGreatDoor.sg
namespace Go.Proofs.YtendlmdmbkcdnaaGreatDoor.ma
open Go.RowKit Go.Maps Go.WideMaps oc rc gh dk
set_option maxRecDepth 100000
structure PrS where
 pid : Nat
 seq : Nat
 off : Nat
structure ManS where
 id : Nat
 nextSeg : Nat
 next : Nat
 mark : Nat
 clock : Nat
 segs : List Nat
 prods : List PrS
def IntsAt (w : World) (A : Option Addr) (l : List Nat) : Prop := 0 < l.length -> ∃ b off, A = some ⟨b, off, none⟩ /\ b < w.heap.size /\ ∀ (j x : Nat), l[j]? = some x -> w.cell? ⟨b, off + j, none⟩ = some (.int .i64 (x : Int))
def PrsAt (w : World) (A : Option Addr) (l : List PrS) : Prop := 0 < l.length -> ∃ b off, A = some ⟨b, off, none⟩ /\ b < w.heap.size /\ ∀ (j : Nat) (x : PrS), l[j]? = some x -> w.cell? ⟨b, off + j * 3, none⟩ = some (.int .i64 (x.pid : Int)) /\ w.cell? ⟨b, off + j * 3 + 1, none⟩ = some (.int .i64 (x.seq : Int)) /\ w.cell? ⟨b, off + j * 3 + 2, none⟩ = some (.int .i64 (x.off : Int))
theorem IntsAt.below {w w' : World} {A : Option Addr} {l : List Nat} (h : IntsAt w A l) (hb : Below w.heap.size w w') : IntsAt w' A l := fun h0 => by
 obtain ⟨b, off, rfl, hlt, hc⟩ := h h0
 exact ⟨b, off, rfl, Nat.lt_of_lt_of_le hlt hb.size, fun j e he => (hb.cell (by exact hlt)).trans (hc j e he)⟩
theorem PrsAt.below {w w' : World} {A : Option Addr} {l : List PrS} (h : PrsAt w A l) (hb : Below w.heap.size w w') : PrsAt w' A l := fun h0 => by
 obtain ⟨b, off, rfl, hlt, hc⟩ := h h0
 refine ⟨b, off, rfl, Nat.lt_of_lt_of_le hlt hb.size, fun j e he => ?_⟩
 obtain ⟨h1, h2, h3⟩ := hc j e he
 exact ⟨(hb.cell (by exact hlt)).trans h1, (hb.cell (by exact hlt)).trans h2, (hb.cell (by exact hlt)).trans h3⟩
def ManS.cells (m : ManS) (A B : Option Addr) (c d : Nat) : Array Value := #[.int .i64 (m.id : Int), .int .i64 (m.nextSeg : Int), .int .i64 (m.next : Int), .int .i64 (m.mark : Int), .int .i64 (m.clock : Int), .slice A m.segs.length c, .slice B m.prods.length d]
structure ManOk (m : ManS) : Prop where
 id : m.id < 1073741824
 next0 : 2 <= m.nextSeg
 next1 : m.nextSeg <= 1073741824
 next : m.next <= 1099511627776
 mark : m.mark <= m.next
 clock : m.clock < 1125899906842624
 len0 : 1 <= m.segs.length
 len1 : m.segs.length <= 64
 segs : ∀ s ∈ m.segs, 1 <= s /\ s < m.nextSeg
 apart : m.segs.Nodup
 plen : m.prods.length <= 64
 rise : ∀ (i : Nat) p r, m.prods[i]? = some p -> m.prods[i + 1]? = some r -> p.pid < r.pid
 prods : ∀ p ∈ m.prods, 1 <= p.pid /\ p.pid < 4294967296 /\ 1 <= p.seq /\ p.seq < 1099511627776 /\ p.off < m.next
theorem atz {x : DataW Unit} {a b : Int} (h : x = .lit (.int .i64 a)) (h' : x = .lit (.int .i64 b)) : a = b := by
 rw [h] at h'
 injection h' with h'
 injection h'
theorem zeroI (w : World) : (zeroValue 3).run Tryz.prog w = .ok (.int .i64 0) w := by kernel_rfl
theorem one_wf : plainElem (H := Unit) Tryz.prog 3 (.int .i64 1) = some (.lit (.int .i64 1), []) := plainElem_int Tryz.underlying3 (by decide)
theorem within_is (w : World) (v lo hi : Int) (b : Bool) (hb : (decide (lo <= v) && decide (v <= hi)) = b) : Calls Tryz.prog 178 #[.int .i64 v, .int .i64 lo, .int .i64 hi] w fun e w' => e = .returned (.bool b) /\ w' = w := by
 subst hb
 go_enter Tryz.func178, Tryz.ntmps178
 by_cases h1 : lo <= v
 ·go_wp2_with fail
  go_ret
  simp [h1]
 ·have g1 : decide (lo <= v) = false := decide_eq_false h1
  go_wp2_with fail
  go_ret
  exact ⟨by simp only [g1, Bool.false_and]; rfl, rfl⟩
theorem nodup_ne {l : List Nat} (h : l.Nodup) {i j x y : Nat} (hi : l[i]? = some x) (hj : l[j]? = some y) (hij : i < j) : x ≠ y := by
 rintro rfl
 obtain ⟨h1, h2⟩ := List.getElem?_eq_some_iff.1 hi
 obtain ⟨h3, h4⟩ := List.getElem?_eq_some_iff.1 hj
 have := (List.getElem_inj h).1 (h2.trans h4.symm)
 omega
set_option maxHeartbeats 4000000 in
theorem segs_ok (w : World) (m : ManS) (H : ManOk m) (A B : Option Addr) (c d : Nat) (h : IntsAt w A m.segs) : Calls Tryz.prog 179 #[.agg (m.cells A B c d)] w fun e w' => e = .returned (.bool true) /\ Below w.heap.size w w' := by
 have HH := Lib.hid H
 have HE := Lib.hid h
 have l0 := H.len0
 have l1 := H.len1
 clear H h
 unfold ManS.cells
 have hmk : ∀ W, (Instr.makeMap 107 none).run Tryz.prog W = .ok (.map (some W.heap.size)) (W.alloc (.map #[] 0)) := fun W => run_makeMap _ W
 go_enter Tryz.func179, Tryz.ntmps179
 obtain ⟨w1, hw1⟩ : ∃ y, w.alloc (.cells #[.int .i64 (m.id : Int), .int .i64 (m.nextSeg : Int), .int .i64 (m.next : Int), .int .i64 (m.mark : Int), .int .i64 (m.clock : Int), .slice A m.segs.length c, .slice B m.prods.length d] 67) = y := ⟨_, rfl⟩
 have HB1 : Hid (Below w.heap.size w w1) := by rw [<- hw1]; exact Lib.hid ((Below.refl _ _).alloc (Nat.le_refl _) _)
 have HK1 : Hid (Blk w1 w.heap.size 67 #[.int .i64 (m.id : Int), .int .i64 (m.nextSeg : Int), .int .i64 (m.next : Int), .int .i64 (m.mark : Int), .int .i64 (m.clock : Int), .slice A m.segs.length c, .slice B m.prods.length d]) := by rw [<- hw1]; exact Lib.hid (Blk.new w _ _)
 have c5 : w1.cell? ⟨w.heap.size, 5, none⟩ = some (.slice A m.segs.length c) := (HK1.out.cell 5).trans rfl
 have d5 : ∀ y, (w1.alloc y).cell? ⟨w.heap.size, 5, none⟩ = some (.slice A m.segs.length c) := fun y => ((HK1.out.alloc y).cell 5).trans rfl
 have g1 : decide ((m.segs.length : Int) < 1) = false := decide_eq_false (by omega)
 have g2 : decide ((64 : Int) < (m.segs.length : Int)) = false := decide_eq_false (by omega)
 go_wp2_with fail
 clear hmk hw1
 have HM2 : Hid ((w1.alloc (.map #[] 0)).ownsMap Tryz.prog 3 (plainElem (H := Unit) Tryz.prog 3) w1.heap.size 0 (.map [])) := Lib.hid (World.ownsMap_made w1 _ _ _)
 have HB2 : Hid (Below w.heap.size w (w1.alloc (.map #[] 0))) := Lib.hid (HB1.out.alloc HB1.out.size _)
 have HK2 := Lib.hid (HK1.out.alloc (.map #[] 0))
 have hw1s : w.heap.size < w1.heap.size := HK1.out.lt
 have HWS := Lib.hid hw1s
 clear d5 g1 g2 hw1s c5
 generalize w1.alloc (.map #[] 0) = w2 at *
 generalize w1.heap.size = mb at *
 go_loopw [20] (fun i wr => ∃ (k : Nat) (D : DataW Unit), k <= m.segs.length /\ i = .int .i64 (k : Int) /\ Hid (Blk wr w.heap.size 67 #[.int .i64 (m.id : Int), .int .i64 (m.nextSeg : Int), .int .i64 (m.next : Int), .int .i64 (m.mark : Int), .int .i64 (m.clock : Int), .slice A m.segs.length c, .slice B m.prods.length d]) /\ Hid (wr.ownsMap Tryz.prog 3 (plainElem Tryz.prog 3) mb k D) /\ Hid (∀ x : Int, (∀ (j e : Nat), j < k -> m.segs[j]? = some e -> (e : Int) ≠ x) -> D.atKey (.int .i64 x) (.lit (.int .i64 0)) = .lit (.int .i64 0)) /\ Hid (Below w.heap.size w wr)) (fun i _ => m.segs.length - (intOf i).toNat)
 case atStart => exact ⟨0, _, Nat.zero_le _, rfl, HK2, HM2, Lib.hid (fun x _ => rfl), HB2⟩
 case round =>
  obtain ⟨k, D, hk, rfl, HBk, HMk, HDk, Hbk⟩ := hrel
  by_cases hlt : k < m.segs.length
  ·obtain ⟨e, he⟩ : ∃ e, m.segs[k]? = some e := ⟨_, List.getElem?_eq_getElem hlt⟩
   obtain ⟨b, off, rfl, hbl, hc⟩ := (HE.out.below Hbk.out) (by omega)
   have e0 := hc k e he
   have cA : wr.cell? ⟨w.heap.size, 1, none⟩ = some (.int .i64 (m.nextSeg : Int)) := (HBk.out.cell 1).trans rfl
   have hmem : e ∈ m.segs := List.mem_of_getElem? he
   have hid := HH.out.segs e hmem
   have hn1 := HH.out.next1
   have hkey := Go.Proofs.YtendlmdmbkcdnaaGreatDoor.gh.keyI (e : Int) (by omega) (by omega)
   have hD0 : D.atKey (.int .i64 (e : Int)) (.lit (.int .i64 0)) = .lit (.int .i64 0) := HDk.out (e : Int) fun j f hj hf => by
    have := nodup_ne HH.out.apart hf he hj
    omega
   have HD0 := Lib.hid hD0
   have hkm : k < maxLen := by unfold maxLen; omega
   have i1 : decide ((e : Int) < 1) = false := decide_eq_false (by omega)
   have i2 : decide ((m.nextSeg : Int) <= (e : Int)) = false := decide_eq_false (by omega)
   have i4 : e < m.nextSeg := by omega
   have i5 : ¬ e < 1 := by omega
   have i3 : IntKind.i64.wrap ((k : Int) + 1) = (k : Int) + 1 := by rw [IntKind.wrap_i64]; omega
   have HEE := Lib.hid he
   have htok : True := trivial
   have hwg : mb ≠ w.heap.size := by have := HWS.out; have := HBk.out.lt; omega
   have HWG := Lib.hid hwg
   clear hD0 he hc hid hwg hn1
   go_wp2_with (first
    | ((with_reducible refine at_op ⟨some 26, .lookup _ (.tmp 24) (.tmp 25) false, _, _, _, _⟩ ?_); go_must (refine wpList_lookup_own_int _ rfl _ _ 107 rfl 3 3 .i64 Go.Proofs.YtendlmdmbkcdnaaGreatDoor.gh.lawN Tryz.underlying107 Tryz.underlying3 (zeroI _) mb k D rfl HMk.out (.int .i64 (e : Int)) (.int .i64 (e : Int)) rfl hkey ?_; intro c0 hat _; have hc0 := atz hat HD0.out; subst hc0; clear hat))
    | (at_mapUpdate; go_must (refine wpList_mapUpdate_own _ rfl _ _ _ 107 rfl 3 3 Go.Proofs.YtendlmdmbkcdnaaGreatDoor.gh.lawN Tryz.underlying107 (plainElem Tryz.prog 3) mb k D rfl HMk.out hkm _ _ _ rfl rfl hkey (.lit (.int .i64 1)) [] one_wf ?_; intro w3 hown3 hgrow3; have HO3 := Lib.hid hown3; have HG3 := Lib.hid hgrow3; have c1 : w3.cell? ⟨w.heap.size, 1, none⟩ = some (.int .i64 (m.nextSeg : Int)) := ((HBk.out.grown hgrow3 (fun h => by injection h with h; exact HWG.out h.symm)).cell 1).trans rfl; obtain ⟨c1', hlk, hat, _⟩ := hown3.lookup_int Go.Proofs.YtendlmdmbkcdnaaGreatDoor.gh.lawN Tryz.underlying107 Tryz.underlying3 (zeroI _) hkey; have hc1 := atz hat (atKey_put_same HMk.out.isMap (by simp [WideAt.IsKeyLit]) _ _); subst hc1; clear hat; clear hown3 hgrow3))
    | fail)
   go_roundw
   case rel =>
    refine ⟨k + 1, _, by omega, by go_num, HBk.out.grown HG3.out (fun h => by injection h with h; exact HWG.out h.symm), HO3, Lib.hid (fun x hx => ?_), Lib.hid (Hbk.out.grown HG3.out Hbk.out.size (fun i hi => by injection hi with hi; have := HWS.out; omega))⟩
    have hne : (e : Int) ≠ x := hx k e (by omega) HEE.out
    rw [atKey_put_other (by intro h; injection h with _ h; exact hne h.symm)]
    exact HDk.out x fun j f hj hf => hx j f (by omega) hf
   case measure => simp [intOf]; omega
  ·go_wp2_with fail
   go_ret
   exact ⟨rfl, Hbk.out⟩
end Go.Proofs.YtendlmdmbkcdnaaGreatDoor.ma
