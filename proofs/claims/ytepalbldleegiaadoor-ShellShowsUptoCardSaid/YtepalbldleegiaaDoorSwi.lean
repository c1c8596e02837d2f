/-
  The document's Show walked.
  Conditions: numbers as their types have them; the response is within the bound of the statement.
-/
import Derived.Test.YtepalbldleegiaaDoorSwd
import Derived.Test.YtepalbldleegiaaDoorMem
import Derived.Lib.QuietBelow
import Derived.Deep.DeepCutAuto
namespace Go.Proofs.YtepalbldleegiaaDoor.sh
open Go.RowKit
open Go.Lib (itoa decDigits)

def I64 (x : Int) : Prop := -9223372036854775808 ≤ x ∧ x ≤ 9223372036854775807
/-- a record's cells -/
def recL (r : Rec) : List Value := [.int .i64 r.kind, .int .i64 r.off, .int .i64 r.time, .int .i64 r.pid, .int .i64 r.seq, .string (S r.key), .string (S r.val)]
/-- a response's value: A, c: where its records lie; D, d: where its names lie -/
def rspV (r : Rsp Rec) (A : Option Addr) (c : Nat) (D : Option Addr) (d : Nat) : Value :=
  .agg #[.int .u32 r.id, .int .i64 r.op, .int .i64 r.code, .int .i64 r.off, .int .i64 r.num, .bool r.more, .slice A r.recs.length c, .slice D r.names.length d]
def nm (x : Bs) : Bs := 32 :: 110 :: 97 :: 109 :: 101 :: 32 :: textL x
def lenN (l : List Bs) : Nat := (l.map fun x => 1 + x.length).sum
theorem text_len (x : Bs) : (textL x).length ≤ 2 + 4 * x.length := by
  unfold textL
  split
  · omega
  · have := esc_len x
    simp only [List.length_cons, List.length_append, List.length_nil]; omega
theorem nm_len (l : List Bs) : (l.flatMap nm).length ≤ 8 * lenN l := by
  induction l with
  | nil => simp [lenN]
  | cons x l ih =>
    have := text_len x
    simp only [List.flatMap_cons, List.length_append, nm, List.length_cons, lenN, List.map_cons, List.sum_cons] at ih ⊢
    omega
theorem lenN_append (a b : List Bs) : lenN (a ++ b) = lenN a + lenN b := by simp [lenN]
theorem lenN_take (l : List Bs) (j : Nat) : lenN (l.take j) ≤ lenN l := by
  have := lenN_append (l.take j) (l.drop j)
  rw [List.take_append_drop] at this
  omega
theorem lenN_mem {l : List Bs} {x : Bs} (h : x ∈ l) : 1 + x.length ≤ lenN l := by
  induction l with
  | nil => cases h
  | cons y l ih =>
    simp only [lenN, List.map_cons, List.sum_cons] at ih ⊢
    rcases List.mem_cons.1 h with rfl | h
    · omega
    · have := ih h; omega
theorem lenN_ge (l : List Bs) : l.length ≤ lenN l := by
  induction l with
  | nil => simp
  | cons y l ih => simp only [lenN, List.map_cons, List.sum_cons, List.length_cons] at ih ⊢; omega
/-- a row of texts -/
def NamesAt (w : World) (B : Nat) (D : Option Addr) (l : List Bs) : Prop :=
  l ≠ [] → ∃ b off, D = some ⟨b, off, none⟩ ∧ b < B ∧ ∀ (i : Nat) (x : Bs), l[i]? = some x → w.cell? ⟨b, off + i, none⟩ = some (.string (S x))
def rp (r : Rec) : Bs := (recParts r).flatMap (fun q => 32 :: q)
def lenR (l : List Rec) : Nat := (l.map fun x => 1 + x.key.length + x.val.length).sum
def Rec.ok (r : Rec) : Prop := I64 r.kind ∧ I64 r.off ∧ I64 r.time ∧ I64 r.pid ∧ I64 r.seq
theorem kind_len {n : Int} (h : I64 n) : (kindL n).length ≤ 25 := by
  unfold kindL
  split
  · decide
  · split
    · decide
    · have := itoa_len h.1 h.2
      simp only [List.length_cons]; omega
theorem rp_len1 (r : Rec) (h : r.ok) : (rp r).length ≤ 130 * (1 + r.key.length + r.val.length) := by
  have h1 := kind_len h.1
  have h2 := itoa_len h.2.1.1 h.2.1.2
  have h3 := itoa_len h.2.2.1.1 h.2.2.1.2
  have h4 := itoa_len h.2.2.2.1.1 h.2.2.2.1.2
  have h5 := itoa_len h.2.2.2.2.1 h.2.2.2.2.2
  have h6 := text_len r.key
  have h7 := text_len r.val
  simp only [rp, recParts, List.flatMap_cons, List.flatMap_nil, List.length_append, List.length_cons, List.length_nil]
  omega
theorem rp_len (l : List Rec) (h : ∀ r ∈ l, r.ok) : (l.flatMap rp).length ≤ 130 * lenR l := by
  induction l with
  | nil => simp [lenR]
  | cons x l ih =>
    have h1 := rp_len1 x (h x List.mem_cons_self)
    have h2 := ih fun r hr => h r (List.mem_cons_of_mem _ hr)
    simp only [List.flatMap_cons, List.length_append, lenR, List.map_cons, List.sum_cons] at h2 ⊢
    omega
theorem lenR_append (a b : List Rec) : lenR (a ++ b) = lenR a + lenR b := by simp [lenR]
theorem lenR_take (l : List Rec) (j : Nat) : lenR (l.take j) ≤ lenR l := by
  have := lenR_append (l.take j) (l.drop j)
  rw [List.take_append_drop] at this
  omega
theorem lenR_mem {l : List Rec} {x : Rec} (h : x ∈ l) : 1 + x.key.length + x.val.length ≤ lenR l := by
  induction l with
  | nil => cases h
  | cons y l ih =>
    simp only [lenR, List.map_cons, List.sum_cons] at ih ⊢
    rcases List.mem_cons.1 h with rfl | h
    · omega
    · have := ih h; omega
theorem lenR_ge (l : List Rec) : l.length ≤ lenR l := by
  induction l with
  | nil => simp
  | cons y l ih => simp only [lenR, List.map_cons, List.sum_cons, List.length_cons] at ih ⊢; omega
/-- a row of records -/
def RecsAt (w : World) (B : Nat) (A : Option Addr) (l : List Rec) : Prop :=
  l ≠ [] → ∃ b off, A = some ⟨b, off, none⟩ ∧ b < B ∧ ∀ (i : Nat) (r : Rec), l[i]? = some r → ∀ (j : Nat) (v : Value), (recL r)[j]? = some v → w.cell? ⟨b, off + i * 7 + j, none⟩ = some v
theorem show_eq (r : Rsp Rec) : showL r = itoa r.id ++ 32 :: (opL r.op ++ 32 :: (codeL r.code ++ 32 :: (itoa r.off ++ 32 :: (itoa r.num ++ 32 :: (moreL r.more ++ (r.names.flatMap nm ++ r.recs.flatMap rp)))))) := by
  have hn : ∀ l : List Bs, (l.flatMap fun n => [nameW, textL n]).flatMap (fun q => 32 :: q) = l.flatMap nm := by
    intro l
    induction l with
    | nil => rfl
    | cons x l ih => simp only [List.flatMap_cons, List.flatMap_append, ih, List.flatMap_nil]; simp [nm, nameW]
  have hr : ∀ l : List Rec, (l.flatMap recParts).flatMap (fun q => 32 :: q) = l.flatMap rp := by
    intro l
    induction l with
    | nil => rfl
    | cons x l ih => simp only [List.flatMap_cons, List.flatMap_append, ih]; rfl
  unfold showL showParts headParts
  rw [List.cons_append, joinB_cons]
  simp only [List.cons_append, List.nil_append, List.flatMap_cons, List.flatMap_append, hn, hr]
theorem recL_one (r : Rec) : ∀ u ∈ recL r, u.oneCell' = true := by
  intro u hu
  simp only [recL, List.mem_cons, List.not_mem_nil, or_false] at hu
  rcases hu with rfl | rfl | rfl | rfl | rfl | rfl | rfl <;> rfl
def rec0 : Array Value := #[.int .i64 0, .int .i64 0, .int .i64 0, .int .i64 0, .int .i64 0, .string ByteArray.empty, .string ByteArray.empty]
theorem put_rec (r : Rec) : ∀ (j : Nat) (v : Value), (recL r)[j]? = some v → (putFrom rec0 0 (recL r))[j]? = some v := fun j v hv => by
  have := putFrom_in (recL r) rec0 0 j (List.getElem?_eq_some_iff.1 hv).1 (Nat.le_refl _)
  rw [Nat.zero_add] at this
  rw [this, hv]
theorem op_len {n : Int} (h0 : -9223372036854775808 ≤ n) (h1 : n ≤ 9223372036854775807) : (opL n).length ≤ 23 := by
  unfold opL
  split
  · rename_i h
    have h2 : ∀ i : Fin 15, (opWords.getD i.val []).length ≤ 23 := by decide
    exact h2 ⟨n.toNat - 1, by omega⟩
  · split
    · decide
    · have := itoa_len h0 h1
      simp only [List.length_cons]; omega
theorem code_len {n : Int} (h0 : -9223372036854775808 ≤ n) (h1 : n ≤ 9223372036854775807) : (codeL n).length ≤ 25 := by
  unfold codeL
  split
  · rename_i h
    have h2 : ∀ i : Fin 12, (codeWords.getD i.val []).length ≤ 25 := by decide
    exact h2 ⟨n.toNat, by omega⟩
  · have := itoa_len h0 h1
    simp only [List.length_cons]; omega

set_option maxRecDepth 100000 in
set_option maxHeartbeats 4000000 in
theorem rshow_any (r : Rsp Rec) (A : Option Addr) (c : Nat) (D : Option Addr) (d : Nat) (w : World) (hid : 0 ≤ r.id ∧ r.id < 4294967296) (hop : I64 r.op) (hco : I64 r.code) (hof : I64 r.off) (hnu : I64 r.num) (hnm : NamesAt w w.heap.size D r.names) (hN : lenN r.names ≤ 2147483647) (hrc : RecsAt w w.heap.size A r.recs) (hrk : ∀ x ∈ r.recs, x.ok) (hR : lenR r.recs ≤ 2147483647) :
    Calls Tryd.prog 6 #[rspV r A c D d] w fun e w' => e = .returned (.string (S (showL r))) ∧ Below w.heap.size w w' := by
  unfold rspV
  go_enter Tryd.func6, Tryd.ntmps6
  go_upto_region 1 with fail
  obtain ⟨g, hg⟩ : ∃ g, g = w.heap.size := ⟨_, rfl⟩
  have hT0 := Blk.new w 26 #[.int .u32 r.id, .int .i64 r.op, .int .i64 r.code, .int .i64 r.off, .int .i64 r.num, .bool r.more, .slice A r.recs.length c, .slice D r.names.length d]
  have hB0 : Below w.heap.size w (w.alloc (.cells #[.int .u32 r.id, .int .i64 r.op, .int .i64 r.code, .int .i64 r.off, .int .i64 r.num, .bool r.more, .slice A r.recs.length c, .slice D r.names.length d] 26)) := (Below.refl _ _).alloc (Nat.le_refl _) _
  rw [← hg] at hT0 hB0 ⊢
  generalize hw0 : w.alloc (.cells #[.int .u32 r.id, .int .i64 r.op, .int .i64 r.code, .int .i64 r.off, .int .i64 r.num, .bool r.more, .slice A r.recs.length c, .slice D r.names.length d] 26) = w0 at hT0 hB0 ⊢
  have HT0 := Lib.hid hT0
  have HB0 := Lib.hid hB0
  have HNM := Lib.hid hnm
  have HN := Lib.hid hN
  have HRC := Lib.hid hrc
  have HRK := Lib.hid hrk
  have HRN := Lib.hid hR
  clear hnm hN hrc hrk hR
  have k0 := cell_regrown (hT0.cell 0)
  have k1 := cell_regrown (hT0.cell 1)
  have k2 := cell_regrown (hT0.cell 2)
  have k3 := cell_regrown (hT0.cell 3)
  have k4 := cell_regrown (hT0.cell 4)
  have HGE := Lib.hid hg
  clear hT0 hB0 hw0 hg
  have q1 : ∀ d os, Calls Tryd.prog 11 #[.int .i64 r.id] (Sort.grow (redrawn w0 d) os) fun e w'' => e = .returned (.string (S (itoa r.id))) ∧ ∃ p : Regrown, w'' = Sort.grow (redrawn w0 p.d) p.os := fun d os => Calls.regrown_of (rnumber_any r.id (by omega) (by omega) _)
  have q2 : ∀ d os, Calls Tryd.prog 12 #[.int .i64 r.op] (Sort.grow (redrawn w0 d) os) fun e w'' => e = .returned (.string (S (opL r.op))) ∧ ∃ p : Regrown, w'' = Sort.grow (redrawn w0 p.d) p.os := fun d os => Calls.regrown_of (opWord_any r.op hop.1 hop.2 _)
  have q3 : ∀ d os, Calls Tryd.prog 13 #[.int .i64 r.code] (Sort.grow (redrawn w0 d) os) fun e w'' => e = .returned (.string (S (codeL r.code))) ∧ ∃ p : Regrown, w'' = Sort.grow (redrawn w0 p.d) p.os := fun d os => Calls.regrown_of (codeWord_any r.code hco.1 hco.2 _)
  have q4 : ∀ d os, Calls Tryd.prog 11 #[.int .i64 r.off] (Sort.grow (redrawn w0 d) os) fun e w'' => e = .returned (.string (S (itoa r.off))) ∧ ∃ p : Regrown, w'' = Sort.grow (redrawn w0 p.d) p.os := fun d os => Calls.regrown_of (rnumber_any r.off hof.1 hof.2 _)
  have q5 : ∀ d os, Calls Tryd.prog 11 #[.int .i64 r.num] (Sort.grow (redrawn w0 d) os) fun e w'' => e = .returned (.string (S (itoa r.num))) ∧ ∃ p : Regrown, w'' = Sort.grow (redrawn w0 p.d) p.os := fun d os => Calls.regrown_of (rnumber_any r.num hnu.1 hnu.2 _)
  have l1 : (itoa r.id).length ≤ 21 := itoa_len (by omega) (by omega)
  have l2 := op_len hop.1 hop.2
  have l3 := code_len hco.1 hco.2
  have l4 := itoa_len hof.1 hof.2
  have l5 := itoa_len hnu.1 hnu.2
  generalize hx1 : itoa r.id = x1 at q1 l1
  generalize hx2 : opL r.op = x2 at q2 l2
  generalize hx3 : codeL r.code = x3 at q3 l3
  generalize hx4 : itoa r.off = x4 at q4 l4
  generalize hx5 : itoa r.num = x5 at q5 l5
  have X1 := Lib.hid hx1
  have X2 := Lib.hid hx2
  have X3 := Lib.hid hx3
  have X4 := Lib.hid hx4
  have X5 := Lib.hid hx5
  clear hx1 hx2 hx3 hx4 hx5
  obtain ⟨y0, hy0⟩ : ∃ y : Bs, y = x1 ++ [32] := ⟨_, rfl⟩
  have m0 : y0.length ≤ 50 := by rw [hy0, List.length_append]; simp only [List.length_cons, List.length_nil]; omega
  have n0 : ∀ W, (Op.stringOp .add (S x1) (⟨#[32]⟩ : ByteArray)).run Tryd.prog W = .ok (.string (S y0)) W := fun W => by rw [hy0]; exact S_add x1 [32] (by simp only [List.length_cons, List.length_nil]; omega) W
  obtain ⟨y1, hy1⟩ : ∃ y : Bs, y = y0 ++ x2 := ⟨_, rfl⟩
  have m1 : y1.length ≤ 75 := by rw [hy1, List.length_append]; omega
  have n1 : ∀ W, (Op.stringOp .add (S y0) (S x2)).run Tryd.prog W = .ok (.string (S y1)) W := fun W => by rw [hy1]; exact S_add y0 x2 (by omega) W
  obtain ⟨y2, hy2⟩ : ∃ y : Bs, y = y1 ++ [32] := ⟨_, rfl⟩
  have m2 : y2.length ≤ 100 := by rw [hy2, List.length_append]; simp only [List.length_cons, List.length_nil]; omega
  have n2 : ∀ W, (Op.stringOp .add (S y1) (⟨#[32]⟩ : ByteArray)).run Tryd.prog W = .ok (.string (S y2)) W := fun W => by rw [hy2]; exact S_add y1 [32] (by simp only [List.length_cons, List.length_nil]; omega) W
  obtain ⟨y3, hy3⟩ : ∃ y : Bs, y = y2 ++ x3 := ⟨_, rfl⟩
  have m3 : y3.length ≤ 125 := by rw [hy3, List.length_append]; omega
  have n3 : ∀ W, (Op.stringOp .add (S y2) (S x3)).run Tryd.prog W = .ok (.string (S y3)) W := fun W => by rw [hy3]; exact S_add y2 x3 (by omega) W
  obtain ⟨y4, hy4⟩ : ∃ y : Bs, y = y3 ++ [32] := ⟨_, rfl⟩
  have m4 : y4.length ≤ 150 := by rw [hy4, List.length_append]; simp only [List.length_cons, List.length_nil]; omega
  have n4 : ∀ W, (Op.stringOp .add (S y3) (⟨#[32]⟩ : ByteArray)).run Tryd.prog W = .ok (.string (S y4)) W := fun W => by rw [hy4]; exact S_add y3 [32] (by simp only [List.length_cons, List.length_nil]; omega) W
  obtain ⟨y5, hy5⟩ : ∃ y : Bs, y = y4 ++ x4 := ⟨_, rfl⟩
  have m5 : y5.length ≤ 175 := by rw [hy5, List.length_append]; omega
  have n5 : ∀ W, (Op.stringOp .add (S y4) (S x4)).run Tryd.prog W = .ok (.string (S y5)) W := fun W => by rw [hy5]; exact S_add y4 x4 (by omega) W
  obtain ⟨y6, hy6⟩ : ∃ y : Bs, y = y5 ++ [32] := ⟨_, rfl⟩
  have m6 : y6.length ≤ 200 := by rw [hy6, List.length_append]; simp only [List.length_cons, List.length_nil]; omega
  have n6 : ∀ W, (Op.stringOp .add (S y5) (⟨#[32]⟩ : ByteArray)).run Tryd.prog W = .ok (.string (S y6)) W := fun W => by rw [hy6]; exact S_add y5 [32] (by simp only [List.length_cons, List.length_nil]; omega) W
  obtain ⟨y7, hy7⟩ : ∃ y : Bs, y = y6 ++ x5 := ⟨_, rfl⟩
  have m7 : y7.length ≤ 225 := by rw [hy7, List.length_append]; omega
  have n7 : ∀ W, (Op.stringOp .add (S y6) (S x5)).run Tryd.prog W = .ok (.string (S y7)) W := fun W => by rw [hy7]; exact S_add y6 x5 (by omega) W
  have Y0 := Lib.hid hy0
  have Y1 := Lib.hid hy1
  have Y2 := Lib.hid hy2
  have Y3 := Lib.hid hy3
  have Y4 := Lib.hid hy4
  have Y5 := Lib.hid hy5
  have Y6 := Lib.hid hy6
  have Y7 := Lib.hid hy7
  have M7 := Lib.hid m7
  clear hy0 m0 hy1 m1 hy2 m2 hy3 m3 hy4 m4 hy5 m5 hy6 m6 hy7 m7
  go_cut [3] (fun s3 wx => s3 = .string (S y7) ∧ Hid (Below w0.heap.size w0 wx))
  case first =>
    refine wp_region_quiet_below (by kernel_rfl) (by kernel_rfl) ?_
    repeat (first | go_big_quiet_skip | (go_big_quiet_want; go_big_quiet_op; first | go_big_quiet_on | (apply Exists.intro; refine ⟨fun _ => ?_, ?_⟩; · (first | with_reducible exact q1 _ _ | with_reducible exact q2 _ _ | with_reducible exact q3 _ _ | with_reducible exact q4 _ _ | with_reducible exact q5 _ _)); go_big_quiet_on))
    refine wpQuiet_nil ?_
    intro _ hw'
    obtain ⟨⟨dq, osq⟩, hw''⟩ := hw'
    subst hw''
    go_wp2_with fail
    go_meet
    exact ⟨rfl, below_regrown w0 dq osq⟩
  case rest =>
    obtain ⟨rfl, HBc⟩ := hcut
    have HTc := Lib.hid (HT0.out.below HBc.out HT0.out.lt)
    have HBw : Hid (Below w.heap.size w wc) := by rw [← HGE.out]; exact HB0.out.trans (HBc.out.mono (Nat.le_of_lt HT0.out.lt))
    clear k0 k1 k2 k3 k4 q1 q2 q3 q4 q5 n0 n1 n2 n3 n4 n5 n6 n7 l1 l2 l3 l4 l5
    obtain ⟨mo, hmo⟩ : ∃ b, r.more = b := ⟨_, rfl⟩
    have c5 : wc.cell? ⟨g, 5, none⟩ = some (.bool mo) := by rw [← hmo]; exact HTc.out.cell 5
    have HMO := Lib.hid hmo
    clear hmo
    obtain ⟨y8, hy8⟩ : ∃ y : Bs, y = y7 ++ 32 :: moreL mo := ⟨_, rfl⟩
    have hm8 : y8.length ≤ 300 := by
      have := M7.out
      rw [hy8, List.length_append]
      cases mo <;> simp only [moreL, List.length_cons, List.length_nil, if_true, Bool.false_eq_true, if_false] <;> omega
    have Y8 := Lib.hid hy8
    have M8 := Lib.hid hm8
    clear hy8 hm8
    go_upto_if 33 with fail
    go_cut [3] (fun s3 wx => s3 = .string (S y8) ∧ wx = wc)
    case first =>
      cases mo with
      | true =>
        have hadd : ∀ W, (Op.stringOp .add (S y7) (⟨#[32, 109, 111, 114, 101]⟩ : ByteArray)).run Tryd.prog W = .ok (.string (S y8)) W := fun W => by
          rw [Y8.out]; exact S_add y7 [32, 109, 111, 114, 101] (by have := M7.out; simp only [List.length_cons, List.length_nil]; omega) W
        go_wp2_with fail
        go_meet
        exact ⟨rfl, rfl⟩
      | false =>
        have hadd : ∀ W, (Op.stringOp .add (S y7) (⟨#[32, 108, 97, 115, 116]⟩ : ByteArray)).run Tryd.prog W = .ok (.string (S y8)) W := fun W => by
          rw [Y8.out]; exact S_add y7 [32, 108, 97, 115, 116] (by have := M7.out; simp only [List.length_cons, List.length_nil]; omega) W
        go_wp2_with fail
        go_meet
        exact ⟨rfl, rfl⟩
    case rest =>
      obtain ⟨rfl, hwc⟩ := hcut
      subst hwc
      clear c5
      have c7 : wc.cell? ⟨g, 7, none⟩ = some (.slice D r.names.length d) := HTc.out.cell 7
      have hnl : r.names.length ≤ 2147483647 := Nat.le_trans (lenN_ge _) HN.out
      go_wp2_with fail
      go_loopw [3, 4] (fun s3 i wr => ∃ (j : Nat) (o : Bs), j ≤ r.names.length ∧ i = .int .i64 j ∧ s3 = .string (S o) ∧ Hid (o = y8 ++ (r.names.take j).flatMap nm) ∧ Hid (Below wc.heap.size wc wr)) (fun _ i _ => r.names.length - (intOf i).toNat)
      case atStart => exact ⟨0, y8, Nat.zero_le _, rfl, rfl, by rw [List.take_zero]; simp [Hid], Below.refl _ _⟩
      case round =>
        obtain ⟨j, o, hj, rfl, rfl, HO, HBr⟩ := hrel
        have q7 := (HBr.out.cell (p := ⟨g, 7, none⟩) HTc.out.lt).trans c7
        have ho : o.length ≤ 17179869500 := by
          have h1 := nm_len (r.names.take j)
          have h2 := lenN_take r.names j
          have h3 := HN.out
          have h4 := M8.out
          rw [HO.out, List.length_append]
          omega
        by_cases hlt : j < r.names.length
        · obtain ⟨b, off, rfl, hb, hcl⟩ := HNM.out (by intro e; rw [e] at hlt; simp at hlt)
          have q0 := ((HBw.out.trans (HBr.out.mono HBw.out.size)).cell (p := ⟨b, off + j, none⟩) hb).trans (hcl j _ (List.getElem?_eq_getElem hlt))
          obtain ⟨x, hx⟩ : ∃ x, r.names[j] = x := ⟨_, rfl⟩
          have hxl : x.length ≤ 2147483647 := by
            have := lenN_mem (List.getElem_mem hlt)
            rw [hx] at this
            have := HN.out
            omega
          rw [hx] at q0
          have HX := Lib.hid hx
          obtain ⟨p1, hp1⟩ : ∃ y : Bs, y = o ++ [32, 110, 97, 109, 101, 32] := ⟨_, rfl⟩
          obtain ⟨p2, hp2⟩ : ∃ y : Bs, y = p1 ++ textL x := ⟨_, rfl⟩
          have hl1 : p1.length ≤ 17179869600 := by rw [hp1, List.length_append]; simp only [List.length_cons, List.length_nil]; omega
          have n1 : ∀ W, (Op.stringOp .add (S o) (⟨#[32, 110, 97, 109, 101, 32]⟩ : ByteArray)).run Tryd.prog W = .ok (.string (S p1)) W := fun W => by rw [hp1]; exact S_add o [32, 110, 97, 109, 101, 32] (by simp only [List.length_cons, List.length_nil]; omega) W
          have n2 : ∀ W, (Op.stringOp .add (S p1) (S (textL x))).run Tryd.prog W = .ok (.string (S p2)) W := fun W => by rw [hp2]; exact S_add p1 (textL x) (by have := text_len x; omega) W
          have HP : Hid (p2 = y8 ++ (r.names.take (j + 1)).flatMap nm) := Lib.hid (by
            rw [hp2, hp1, HO.out, List.take_succ_eq_append_getElem hlt, HX.out, List.flatMap_append, List.flatMap_singleton]
            simp [nm])
          clear hcl hx hp1 hp2 hl1 hb
          go_wp2_with fail
          refine (rtext_any x (by omega) wr).mono ?_
          rintro e w1 ⟨rfl, hb1⟩
          have HB1 : Hid (Below wc.heap.size wc w1) := HBr.out.trans (hb1.mono HBr.out.size)
          clear hb1
          go_wp2_with fail
          go_roundw
          case rel => exact ⟨j + 1, p2, by omega, by go_num, rfl, HP, HB1⟩
          case measure => simp [intOf]; omega
        · have hja : j = r.names.length := by omega
          have HO2 : Hid (o = y8 ++ r.names.flatMap nm) := Lib.hid (by rw [HO.out, hja, List.take_length])
          have ho2 := Lib.hid ho
          clear hja HO ho
          go_wp2_with fail
          obtain ⟨wo, rfl⟩ : ∃ wo : World, wo = wr := ⟨_, rfl⟩
          have c6 : wo.cell? ⟨g, 6, none⟩ = some (.slice A r.recs.length c) := (HBr.out.cell (p := ⟨g, 6, none⟩) HTc.out.lt).trans (HTc.out.cell 6)
          have hrl : r.recs.length ≤ 2147483647 := Nat.le_trans (lenR_ge _) HRN.out
          have HBo := HBr
          clear HBr hlt
          go_loopw [3, 5] (fun s3 i wr => ∃ (j : Nat) (o2 : Bs), j ≤ r.recs.length ∧ i = .int .i64 j ∧ s3 = .string (S o2) ∧ Hid (o2 = y8 ++ r.names.flatMap nm ++ (r.recs.take j).flatMap rp) ∧ Hid (Below wc.heap.size wc wr)) (fun _ i _ => r.recs.length - (intOf i).toNat)
          case atStart => exact ⟨0, o, Nat.zero_le _, rfl, rfl, Lib.hid (by rw [HO2.out]; simp), HBo⟩
          case round =>
            obtain ⟨j, o2, hj, rfl, rfl, HO, HBr⟩ := hrel
            have qq6 := (HBr.out.cell (p := ⟨g, 6, none⟩) HTc.out.lt).trans (HTc.out.cell 6)
            by_cases hlt : j < r.recs.length
            · obtain ⟨b, off, rfl, hb, hcl⟩ := HRC.out (by intro e; rw [e] at hlt; simp at hlt)
              have hBall : Below w.heap.size w wr := HBw.out.trans (HBr.out.mono HBw.out.size)
              obtain ⟨x, hx⟩ : ∃ x, r.recs[j] = x := ⟨_, rfl⟩
              have hmem : x ∈ r.recs := by rw [← hx]; exact List.getElem_mem hlt
              have RS : Hid (∀ (i : Nat) (v : Value), (recL x)[i]? = some v → wr.cell? ((⟨b, off + j * 7, none⟩ : Addr).add i) = some v) := Lib.hid (fun i v h => by
                rw [add_flat]
                exact (hBall.cell (p := ⟨b, off + j * 7 + i, none⟩) hb).trans (hcl j x (by rw [← hx]; exact List.getElem?_eq_getElem hlt) i v h))
              have hok := HRK.out x hmem
              have hxl := lenR_mem hmem
              have ho : o2.length ≤ 296352743920 := by
                have h1 := nm_len r.names
                have h2 := HN.out
                have h3 := rp_len (r.recs.take j) (fun y hy => HRK.out y (List.mem_of_mem_take hy))
                have h4 := lenR_take r.recs j
                have h5 := HRN.out
                have h6 := M8.out
                rw [HO.out, List.length_append, List.length_append]
                omega
              have hxk : x.key.length ≤ 2147483647 ∧ x.val.length ≤ 2147483647 := by have := HRN.out; omega
              obtain ⟨hxk1, hxk2⟩ := hxk
              obtain ⟨hk0, hk1, hk2, hk3, hk4⟩ := hok
              have HX := Lib.hid hx
              have HKK := Lib.hid hk0
              clear hcl hx hmem hb hBall hxl
              have hadd0 : ∀ W, (Op.stringOp .add (⟨#[107, 105, 110, 100]⟩ : ByteArray) (S (itoa x.kind))).run Tryd.prog W = .ok (.string (S (107 :: 105 :: 110 :: 100 :: itoa x.kind))) W := fun W => S_add [107, 105, 110, 100] _ (by have := itoa_len hk0.1 hk0.2; simp only [List.length_cons, List.length_nil]; omega) W
              go_wp2_with (first
                | ((with_reducible refine at_op ⟨_, .load 29 (.tmp 64), _, _, _, _⟩ ?_); refine wpList_load_list rfl 29 (.tmp 64) rfl ⟨b, off + j * 7, none⟩ rfl (recL x) RS.out _ Tryd.underlying29 rfl (by kernel_rfl) ?_)
                | ((with_reducible refine at_op ⟨_, .store 29 (.tmp 6) (.tmp 65), _, _, _, _⟩ ?_); refine wpList_store_blk rfl 29 (.tmp 6) (.tmp 65) rfl wr.heap.size 0 rfl (recL x) rfl (recL_one x) 29 rec0 (Blk.new wr 29 rec0) (show 0 + 7 ≤ 7 from Nat.le_refl 7) (by kernel_rfl) ?_; intro w1 hT1 hg1 hs1; have q0 : w1.cell? ⟨wr.heap.size, 0, none⟩ = some (.int .i64 x.kind) := (hT1.cell 0).trans (put_rec x 0 _ rfl); have HT1 := Lib.hid hT1; have HG1 := Lib.hid hg1; clear hT1 hg1 hs1)
                | fail)
              refine (rnumber_any x.kind hk0.1 hk0.2 w1).mono ?_
              rintro e w2 ⟨rfl, hb2⟩
              have HB1 : Hid (Below wc.heap.size wc w1) := below_gb (HBr.out.alloc HBr.out.size _) HG1.out (by rw [World.size_alloc]; exact Nat.le_succ_of_le HBr.out.size) HBr.out.size
              have HT2 := Lib.hid (HT1.out.below hb2 HT1.out.lt)
              have HB2 : Hid (Below wc.heap.size wc w2) := HB1.out.trans (hb2.mono HB1.out.size)
              have q0' : w2.cell? ⟨wr.heap.size, 0, none⟩ = some (.int .i64 x.kind) := (HT2.out.cell 0).trans (put_rec x 0 _ rfl)
              clear hb2 HB1 HT1 HG1 RS q0
              obtain ⟨ka, hka⟩ : ∃ y : Bs, y = if (x.kind == 1) = true then [118,97,108,117,101] else 107 :: 105 :: 110 :: 100 :: itoa x.kind := ⟨_, rfl⟩
              obtain ⟨kd, hkd⟩ : ∃ y : Bs, y = kindL x.kind := ⟨_, rfl⟩
              have KA := Lib.hid hka
              have KD := Lib.hid hkd
              have LKD : Hid (kd.length ≤ 25) := Lib.hid (by rw [hkd]; exact kind_len hk0)
              clear hka hkd
              go_upto_if 72 with fail
              go_cut [7] (fun s7 wx => s7 = .string (S ka) ∧ w2 = wx)
              case first =>
                cases hb1 : (x.kind == 1) with
                | true =>
                  have hka : S [118, 97, 108, 117, 101] = S ka := by rw [KA.out, if_pos hb1]
                  go_wp2_with fail
                  go_meet
                  exact ⟨congrArg Value.string hka, rfl⟩
                | false =>
                  have hka : S (107 :: 105 :: 110 :: 100 :: itoa x.kind) = S ka := by rw [KA.out, if_neg (by rw [hb1]; decide)]
                  go_wp2_with fail
                  go_meet
                  exact ⟨congrArg Value.string hka, rfl⟩
              case rest =>
                obtain ⟨rfl, hwc2⟩ := hcut
                subst hwc2
                clear hadd0
                go_upto_if 75 with fail
                go_cut [7] (fun s7 wx => s7 = .string (S kd) ∧ w2 = wx)
                case first =>
                  cases hb2 : (x.kind == 2) with
                  | true =>
                    have hkd : S [116, 111, 109, 98, 115, 116, 111, 110, 101] = S kd := by
                      have e : x.kind = 2 := by simpa using hb2
                      rw [KD.out, e]; rfl
                    go_wp2_with fail
                    go_meet
                    exact ⟨congrArg Value.string hkd, rfl⟩
                  | false =>
                    have hkd : S ka = S kd := by
                      have e : x.kind ≠ 2 := by simpa using hb2
                      rw [KA.out, KD.out]
                      unfold kindL
                      by_cases h1 : x.kind = 1
                      · rw [if_pos (by simpa using h1), if_pos h1]
                      · rw [if_neg (by simpa using h1), if_neg h1, if_neg e]
                    go_wp2_with fail
                    go_meet
                    exact ⟨congrArg Value.string hkd, rfl⟩
                case rest =>
                  obtain ⟨rfl, hwc3⟩ := hcut
                  subst hwc3
                  obtain ⟨v1, hv1⟩ : ∃ y : Bs, itoa x.off = y := ⟨_, rfl⟩
                  have l1 := itoa_len hk1.1 hk1.2
                  rw [hv1] at l1
                  have V1 := Lib.hid hv1
                  obtain ⟨v2, hv2⟩ : ∃ y : Bs, itoa x.time = y := ⟨_, rfl⟩
                  have l2 := itoa_len hk2.1 hk2.2
                  rw [hv2] at l2
                  have V2 := Lib.hid hv2
                  obtain ⟨v3, hv3⟩ : ∃ y : Bs, itoa x.pid = y := ⟨_, rfl⟩
                  have l3 := itoa_len hk3.1 hk3.2
                  rw [hv3] at l3
                  have V3 := Lib.hid hv3
                  obtain ⟨v4, hv4⟩ : ∃ y : Bs, itoa x.seq = y := ⟨_, rfl⟩
                  have l4 := itoa_len hk4.1 hk4.2
                  rw [hv4] at l4
                  have V4 := Lib.hid hv4
                  obtain ⟨v5, hv5⟩ : ∃ y : Bs, textL x.key = y := ⟨_, rfl⟩
                  have l5 := text_len x.key
                  rw [hv5] at l5
                  have V5 := Lib.hid hv5
                  obtain ⟨v6, hv6⟩ : ∃ y : Bs, textL x.val = y := ⟨_, rfl⟩
                  have l6 := text_len x.val
                  rw [hv6] at l6
                  have V6 := Lib.hid hv6
                  clear hv1 hv2 hv3 hv4 hv5 hv6
                  have lkd := LKD.out
                  obtain ⟨z0, hz0⟩ : ∃ y : Bs, y = o2 ++ [32] := ⟨_, rfl⟩
                  have m0 : z0.length ≤ 304942678520 := by rw [hz0, List.length_append]; simp only [List.length_cons, List.length_nil]; omega
                  have n0 : ∀ W, (Op.stringOp .add (S o2) (⟨#[32]⟩ : ByteArray)).run Tryd.prog W = .ok (.string (S z0)) W := fun W => by rw [hz0]; exact S_add o2 [32] (by simp only [List.length_cons, List.length_nil]; omega) W
                  obtain ⟨z1, hz1⟩ : ∃ y : Bs, y = z0 ++ kd := ⟨_, rfl⟩
                  have m1 : z1.length ≤ 313532613120 := by rw [hz1, List.length_append]; omega
                  have n1 : ∀ W, (Op.stringOp .add (S z0) (S kd)).run Tryd.prog W = .ok (.string (S z1)) W := fun W => by rw [hz1]; exact S_add z0 kd (by omega) W
                  obtain ⟨z2, hz2⟩ : ∃ y : Bs, y = z1 ++ [32] := ⟨_, rfl⟩
                  have m2 : z2.length ≤ 322122547720 := by rw [hz2, List.length_append]; simp only [List.length_cons, List.length_nil]; omega
                  have n2 : ∀ W, (Op.stringOp .add (S z1) (⟨#[32]⟩ : ByteArray)).run Tryd.prog W = .ok (.string (S z2)) W := fun W => by rw [hz2]; exact S_add z1 [32] (by simp only [List.length_cons, List.length_nil]; omega) W
                  obtain ⟨z3, hz3⟩ : ∃ y : Bs, y = z2 ++ v1 := ⟨_, rfl⟩
                  have m3 : z3.length ≤ 330712482320 := by rw [hz3, List.length_append]; omega
                  have n3 : ∀ W, (Op.stringOp .add (S z2) (S v1)).run Tryd.prog W = .ok (.string (S z3)) W := fun W => by rw [hz3]; exact S_add z2 v1 (by omega) W
                  obtain ⟨z4, hz4⟩ : ∃ y : Bs, y = z3 ++ [32] := ⟨_, rfl⟩
                  have m4 : z4.length ≤ 339302416920 := by rw [hz4, List.length_append]; simp only [List.length_cons, List.length_nil]; omega
                  have n4 : ∀ W, (Op.stringOp .add (S z3) (⟨#[32]⟩ : ByteArray)).run Tryd.prog W = .ok (.string (S z4)) W := fun W => by rw [hz4]; exact S_add z3 [32] (by simp only [List.length_cons, List.length_nil]; omega) W
                  obtain ⟨z5, hz5⟩ : ∃ y : Bs, y = z4 ++ v2 := ⟨_, rfl⟩
                  have m5 : z5.length ≤ 347892351520 := by rw [hz5, List.length_append]; omega
                  have n5 : ∀ W, (Op.stringOp .add (S z4) (S v2)).run Tryd.prog W = .ok (.string (S z5)) W := fun W => by rw [hz5]; exact S_add z4 v2 (by omega) W
                  obtain ⟨z6, hz6⟩ : ∃ y : Bs, y = z5 ++ [32] := ⟨_, rfl⟩
                  have m6 : z6.length ≤ 356482286120 := by rw [hz6, List.length_append]; simp only [List.length_cons, List.length_nil]; omega
                  have n6 : ∀ W, (Op.stringOp .add (S z5) (⟨#[32]⟩ : ByteArray)).run Tryd.prog W = .ok (.string (S z6)) W := fun W => by rw [hz6]; exact S_add z5 [32] (by simp only [List.length_cons, List.length_nil]; omega) W
                  obtain ⟨z7, hz7⟩ : ∃ y : Bs, y = z6 ++ v3 := ⟨_, rfl⟩
                  have m7 : z7.length ≤ 365072220720 := by rw [hz7, List.length_append]; omega
                  have n7 : ∀ W, (Op.stringOp .add (S z6) (S v3)).run Tryd.prog W = .ok (.string (S z7)) W := fun W => by rw [hz7]; exact S_add z6 v3 (by omega) W
                  obtain ⟨z8, hz8⟩ : ∃ y : Bs, y = z7 ++ [32] := ⟨_, rfl⟩
                  have m8 : z8.length ≤ 373662155320 := by rw [hz8, List.length_append]; simp only [List.length_cons, List.length_nil]; omega
                  have n8 : ∀ W, (Op.stringOp .add (S z7) (⟨#[32]⟩ : ByteArray)).run Tryd.prog W = .ok (.string (S z8)) W := fun W => by rw [hz8]; exact S_add z7 [32] (by simp only [List.length_cons, List.length_nil]; omega) W
                  obtain ⟨z9, hz9⟩ : ∃ y : Bs, y = z8 ++ v4 := ⟨_, rfl⟩
                  have m9 : z9.length ≤ 382252089920 := by rw [hz9, List.length_append]; omega
                  have n9 : ∀ W, (Op.stringOp .add (S z8) (S v4)).run Tryd.prog W = .ok (.string (S z9)) W := fun W => by rw [hz9]; exact S_add z8 v4 (by omega) W
                  obtain ⟨z10, hz10⟩ : ∃ y : Bs, y = z9 ++ [32] := ⟨_, rfl⟩
                  have m10 : z10.length ≤ 390842024520 := by rw [hz10, List.length_append]; simp only [List.length_cons, List.length_nil]; omega
                  have n10 : ∀ W, (Op.stringOp .add (S z9) (⟨#[32]⟩ : ByteArray)).run Tryd.prog W = .ok (.string (S z10)) W := fun W => by rw [hz10]; exact S_add z9 [32] (by simp only [List.length_cons, List.length_nil]; omega) W
                  obtain ⟨z11, hz11⟩ : ∃ y : Bs, y = z10 ++ v5 := ⟨_, rfl⟩
                  have m11 : z11.length ≤ 399431959120 := by rw [hz11, List.length_append]; omega
                  have n11 : ∀ W, (Op.stringOp .add (S z10) (S v5)).run Tryd.prog W = .ok (.string (S z11)) W := fun W => by rw [hz11]; exact S_add z10 v5 (by omega) W
                  obtain ⟨z12, hz12⟩ : ∃ y : Bs, y = z11 ++ [32] := ⟨_, rfl⟩
                  have m12 : z12.length ≤ 408021893720 := by rw [hz12, List.length_append]; simp only [List.length_cons, List.length_nil]; omega
                  have n12 : ∀ W, (Op.stringOp .add (S z11) (⟨#[32]⟩ : ByteArray)).run Tryd.prog W = .ok (.string (S z12)) W := fun W => by rw [hz12]; exact S_add z11 [32] (by simp only [List.length_cons, List.length_nil]; omega) W
                  obtain ⟨z13, hz13⟩ : ∃ y : Bs, y = z12 ++ v6 := ⟨_, rfl⟩
                  have m13 : z13.length ≤ 416611828320 := by rw [hz13, List.length_append]; omega
                  have n13 : ∀ W, (Op.stringOp .add (S z12) (S v6)).run Tryd.prog W = .ok (.string (S z13)) W := fun W => by rw [hz13]; exact S_add z12 v6 (by omega) W
                  have HZ : Hid (z13 = y8 ++ r.names.flatMap nm ++ (r.recs.take (j + 1)).flatMap rp) := Lib.hid (by
                    rw [hz13, hz12, hz11, hz10, hz9, hz8, hz7, hz6, hz5, hz4, hz3, hz2, hz1, hz0, HO.out, List.take_succ_eq_append_getElem hlt, HX.out, List.flatMap_append, List.flatMap_singleton]
                    simp only [rp, recParts, List.flatMap_cons, List.flatMap_nil, V1.out, V2.out, V3.out, V4.out, V5.out, V6.out, KD.out]
                    simp)
                  clear hz0 m0 hz1 m1 hz2 m2 hz3 m3 hz4 m4 hz5 m5 hz6 m6 hz7 m7 hz8 m8 hz9 m9 hz10 m10 hz11 m11 hz12 m12 hz13 m13
                  have k1 := cell_regrown (show w2.cell? ⟨wr.heap.size, 1, none⟩ = some (.int .i64 x.off) from (HT2.out.cell 1).trans (put_rec x 1 _ rfl))
                  have k2 := cell_regrown (show w2.cell? ⟨wr.heap.size, 2, none⟩ = some (.int .i64 x.time) from (HT2.out.cell 2).trans (put_rec x 2 _ rfl))
                  have k3 := cell_regrown (show w2.cell? ⟨wr.heap.size, 3, none⟩ = some (.int .i64 x.pid) from (HT2.out.cell 3).trans (put_rec x 3 _ rfl))
                  have k4 := cell_regrown (show w2.cell? ⟨wr.heap.size, 4, none⟩ = some (.int .i64 x.seq) from (HT2.out.cell 4).trans (put_rec x 4 _ rfl))
                  have k5 := cell_regrown (show w2.cell? ⟨wr.heap.size, 5, none⟩ = some (.string (S x.key)) from (HT2.out.cell 5).trans (put_rec x 5 _ rfl))
                  have k6 := cell_regrown (show w2.cell? ⟨wr.heap.size, 6, none⟩ = some (.string (S x.val)) from (HT2.out.cell 6).trans (put_rec x 6 _ rfl))
                  have q1 : ∀ d os, Calls Tryd.prog 11 #[.int .i64 x.off] (Sort.grow (redrawn w2 d) os) fun e w'' => e = .returned (.string (S v1)) ∧ ∃ p : Regrown, w'' = Sort.grow (redrawn w2 p.d) p.os := fun d os => Calls.regrown_of (by rw [← V1.out]; exact rnumber_any x.off hk1.1 hk1.2 _)
                  have q2 : ∀ d os, Calls Tryd.prog 11 #[.int .i64 x.time] (Sort.grow (redrawn w2 d) os) fun e w'' => e = .returned (.string (S v2)) ∧ ∃ p : Regrown, w'' = Sort.grow (redrawn w2 p.d) p.os := fun d os => Calls.regrown_of (by rw [← V2.out]; exact rnumber_any x.time hk2.1 hk2.2 _)
                  have q3 : ∀ d os, Calls Tryd.prog 11 #[.int .i64 x.pid] (Sort.grow (redrawn w2 d) os) fun e w'' => e = .returned (.string (S v3)) ∧ ∃ p : Regrown, w'' = Sort.grow (redrawn w2 p.d) p.os := fun d os => Calls.regrown_of (by rw [← V3.out]; exact rnumber_any x.pid hk3.1 hk3.2 _)
                  have q4 : ∀ d os, Calls Tryd.prog 11 #[.int .i64 x.seq] (Sort.grow (redrawn w2 d) os) fun e w'' => e = .returned (.string (S v4)) ∧ ∃ p : Regrown, w'' = Sort.grow (redrawn w2 p.d) p.os := fun d os => Calls.regrown_of (by rw [← V4.out]; exact rnumber_any x.seq hk4.1 hk4.2 _)
                  have q5 : ∀ d os, Calls Tryd.prog 14 #[.string (S x.key)] (Sort.grow (redrawn w2 d) os) fun e w'' => e = .returned (.string (S v5)) ∧ ∃ p : Regrown, w'' = Sort.grow (redrawn w2 p.d) p.os := fun d os => Calls.regrown_of (by rw [← V5.out]; exact rtext_any x.key (by omega) _)
                  have q6 : ∀ d os, Calls Tryd.prog 14 #[.string (S x.val)] (Sort.grow (redrawn w2 d) os) fun e w'' => e = .returned (.string (S v6)) ∧ ∃ p : Regrown, w'' = Sort.grow (redrawn w2 p.d) p.os := fun d os => Calls.regrown_of (by rw [← V6.out]; exact rtext_any x.val (by omega) _)
                  clear lkd l1 l2 l3 l4 l5 l6 q0'
                  go_upto_region 18 with fail
                  refine wp_region_quiet_below (by kernel_rfl) (by kernel_rfl) ?_
                  repeat (first | go_big_quiet_skip | (go_big_quiet_want; go_big_quiet_op; first | go_big_quiet_on | (apply Exists.intro; refine ⟨fun _ => ?_, ?_⟩; · (first | with_reducible exact q1 _ _ | with_reducible exact q2 _ _ | with_reducible exact q3 _ _ | with_reducible exact q4 _ _ | with_reducible exact q5 _ _ | with_reducible exact q6 _ _)); go_big_quiet_on))
                  refine wpQuiet_nil ?_
                  intro _ hw'
                  obtain ⟨⟨dq, osq⟩, hw''⟩ := hw'
                  subst hw''
                  have HB4 : Hid (Below wc.heap.size wc (Sort.grow (redrawn w2 dq) osq)) := HB2.out.trans ((below_regrown w2 dq osq).mono HB2.out.size)
                  clear q1 q2 q3 q4 q5 q6 k1 k2 k3 k4 k5 k6
                  go_wp2_with fail
                  go_roundw
                  case rel => exact ⟨j + 1, z13, by omega, by go_num, rfl, HZ, HB4⟩
                  case measure => simp [intOf]; omega
            · have hjr : j = r.recs.length := by omega
              have HF : Hid (o2 = showL r) := Lib.hid (by
                rw [HO.out, hjr, List.take_length, show_eq, X1.out, X2.out, X3.out, X4.out, X5.out, HMO.out, Y8.out, Y7.out, Y6.out, Y5.out, Y4.out, Y3.out, Y2.out, Y1.out, Y0.out]
                simp)
              have HBF : Hid (Below w.heap.size w wr) := HBw.out.trans (HBr.out.mono HBw.out.size)
              clear hjr
              go_wp2_with fail
              go_ret
              exact ⟨ret_str (by rw [HF.out]), HBF.out⟩
end Go.Proofs.YtepalbldleegiaaDoor.sh
