/-
  The document's words for a request: walked.
  Conditions: numbers as their types have them; texts of at most a megabyte.
-/
import Derived.Test.YtepalbldleegiaaGreatDoorSzh
namespace Go.Proofs.YtepalbldleegiaaGreatDoor.sh
open Go.RowKit
open Go.Lib (itoa decDigits byteCells)

def reqStr (r : Req) : Bs := 32 :: (opL r.op ++ (fieldsOf r.op).flatMap fun f => 32 :: writeF r f)
def reqI (r : Req) : Prop := I64 r.op ∧ (I64 r.off ∧ I64 r.num ∧ I64 r.pid ∧ I64 r.seq) ∧ r.topic.length ≤ 1048576 ∧ r.key.length ≤ 1048576 ∧ r.value.length ≤ 1048576
theorem writeF_len {r : Req} (h : reqI r) (f : Fd) : (writeF r f).length ≤ 4194400 := by
  obtain ⟨-, ⟨ho, hnu, hp, hs⟩, ht, hk, hv⟩ := h
  have t1 := text_len r.topic
  have t2 := text_len r.key
  have t3 := text_len r.value
  have i1 := itoa_len ho.1 ho.2
  have i2 := itoa_len hnu.1 hnu.2
  have i3 := itoa_len hp.1 hp.2
  have i4 := itoa_len hs.1 hs.2
  cases f <;> simp only [writeF] <;> omega
theorem fields5 (op : Int) : (fieldsOf op).length ≤ 5 := by unfold fieldsOf fieldsN; split <;> simp
theorem flat_len {r : Req} (h : reqI r) : ∀ l : List Fd, (l.flatMap fun f => 32 :: writeF r f).length ≤ l.length * 4194401
  | [] => by simp
  | f :: l => by
    have h0 := writeF_len h f
    have ih := flat_len h l
    simp only [List.flatMap_cons, List.length_append, List.length_cons] at ih ⊢
    omega

set_option maxRecDepth 100000 in
set_option maxHeartbeats 8000000 in
theorem request_any (r : Req) (w : World) (hI : reqI r) :
    Calls Tryz.prog 27 #[.agg (reqA r)] w fun e w' => e = .returned (.string (S (reqStr r))) ∧ Below w.heap.size w w' := by
  have hT0 := Blk.new w 24 (reqA r)
  have hB0 : Below w.heap.size w (w.alloc (.cells (reqA r) 24)) := (Below.refl _ _).alloc (Nat.le_refl _) _
  have HT0 := Lib.hid hT0
  have HB0 := Lib.hid hB0
  have HI := Lib.hid hI
  clear hT0 hB0 hI
  unfold reqA at HT0 HB0 ⊢
  obtain ⟨fl, hfl⟩ : ∃ l, fieldsOf r.op = l := ⟨_, rfl⟩
  have hF5 : fl.length ≤ 5 := by rw [← hfl]; exact fields5 _
  have HFB : Hid (fieldB r.op = fl.map fb) := Lib.hid (by unfold fieldB; rw [hfl])
  obtain ⟨ow, how⟩ : ∃ l, opL r.op = l := ⟨_, rfl⟩
  have HRS : Hid (reqStr r = 32 :: (ow ++ fl.flatMap fun f => 32 :: writeF r f)) := Lib.hid (by unfold reqStr; rw [hfl, how])
  have hol : ow.length ≤ 23 := by rw [← how]; exact op_len HI.out.1.1 HI.out.1.2
  have HOW := Lib.hid how
  clear hfl how
  go_enter Tryz.func27, Tryz.ntmps27
  go_upto_region 1 with fail
  generalize hw0 : w.alloc _ = w0 at HT0 HB0 ⊢
  clear hw0
  have q1 : w0.cell? ⟨w.heap.size, 1, none⟩ = some (.int .i64 r.op) := HT0.out.cell 1
  have hadd0 : ∀ W, (Op.stringOp .add (⟨#[32]⟩ : ByteArray) (S ow)).run Tryz.prog W = .ok (.string (S (32 :: ow))) W := fun W => S_add [32] ow (by simp only [List.length_cons, List.length_nil]; omega) W
  go_wp2_with fail
  refine (opWord_any r.op HI.out.1.1 HI.out.1.2 w0).mono ?_
  rintro e w1 ⟨rfl, hb1⟩
  rw [HOW.out]
  have HT1 := Lib.hid (HT0.out.below hb1 HT0.out.lt)
  have HB1 : Hid (Below w0.heap.size w0 w1) := hb1
  clear hb1 q1
  have q1 : w1.cell? ⟨w.heap.size, 1, none⟩ = some (.int .i64 r.op) := HT1.out.cell 1
  go_wp2_with fail
  refine (fields_any r.op w1).mono ?_
  rintro e w2 ⟨rfl, rfl⟩
  rw [HFB.out]
  clear q1 hadd0
  have hsz : (S (fl.map fb)).size = fl.length := by rw [S_size, List.length_map]
  go_wp2_with fail
  go_loopw [3, 5] (fun s3 i wr => ∃ (j : Nat) (o : Bs), j ≤ fl.length ∧ i = .int .i64 j ∧ s3 = .string (S o) ∧ Hid (o = 32 :: (ow ++ (fl.take j).flatMap fun f => 32 :: writeF r f)) ∧ Hid (Below w0.heap.size w0 wr)) (fun _ i _ => fl.length - (intOf i).toNat)
  case atStart => exact ⟨0, 32 :: ow, Nat.zero_le _, rfl, rfl, Lib.hid (by simp), HB1⟩
  case round =>
    obtain ⟨j, o, hj, rfl, rfl, HO, HBr⟩ := hrel
    by_cases hlt : j < fl.length
    · have hol : o.length ≤ 20972030 := by
        rw [HO.out]
        have := flat_len HI.out (fl.take j)
        have h2 : (fl.take j).length ≤ 5 := by rw [List.length_take]; omega
        simp only [List.length_cons, List.length_append]
        omega
      obtain ⟨f, hf⟩ : ∃ f, fl[j] = f := ⟨_, rfl⟩
      have hix : ∀ W, (Instr.index 9 (.string (S (fl.map fb))) (.int .i64 (j : Int))).run Tryz.prog W = .ok (.int .u8 ((fb f).toNat : Int)) W := fun W => by
        rw [S_idx (fl.map fb) j (by rw [List.length_map]; exact hlt) W, List.getElem_map, hf]
      have HTr : Hid (Blk wr w.heap.size 24 _) := HT0.out.below HBr.out HT0.out.lt
      obtain ⟨x, hx⟩ : ∃ x, writeF r f = x := ⟨_, rfl⟩
      have hxl : x.length ≤ 4194400 := by rw [← hx]; exact writeF_len HI.out f
      have HN : Hid ((o ++ [32]) ++ x = 32 :: (ow ++ (fl.take (j + 1)).flatMap fun f => 32 :: writeF r f)) := Lib.hid (by
        rw [List.take_succ_eq_append_getElem hlt, List.flatMap_append, hf, HO.out, ← hx]
        simp)
      have hadd1 : ∀ W, (Op.stringOp .add (S o) (⟨#[32]⟩ : ByteArray)).run Tryz.prog W = .ok (.string (S (o ++ [32]))) W := fun W => S_add o [32] (by simp only [List.length_cons, List.length_nil]; omega) W
      obtain ⟨o1, ho1⟩ : ∃ l, o ++ [32] = l := ⟨_, rfl⟩
      have hol1 : o1.length ≤ 20972031 := by rw [← ho1, List.length_append]; simp only [List.length_cons, List.length_nil]; omega
      have hadd2 : ∀ W, (Op.stringOp .add (S o1) (S x)).run Tryz.prog W = .ok (.string (S (o1 ++ x))) W := fun W => S_add o1 x (by omega) W
      rw [ho1] at hadd1 HN
      have HX := Lib.hid hx
      have hII := HI.out
      obtain ⟨-, ⟨i1, i2, i3, i4⟩, t1, t2, t3⟩ := hII
      have I1 := Lib.hid i1
      have I2 := Lib.hid i2
      have I3 := Lib.hid i3
      have I4 := Lib.hid i4
      clear hf ho1 hx i1 i2 i3 i4 hol hol1
      have c2 : wr.cell? ⟨w.heap.size, 2, none⟩ = some (.string (S r.topic)) := HTr.out.cell 2
      have c3 : wr.cell? ⟨w.heap.size, 3, none⟩ = some (.string (S r.key)) := HTr.out.cell 3
      have c4 : wr.cell? ⟨w.heap.size, 4, none⟩ = some (.string (S r.value)) := HTr.out.cell 4
      have c5 : wr.cell? ⟨w.heap.size, 5, none⟩ = some (.int .i64 r.off) := HTr.out.cell 5
      have c6 : wr.cell? ⟨w.heap.size, 6, none⟩ = some (.int .i64 r.num) := HTr.out.cell 6
      have c7 : wr.cell? ⟨w.heap.size, 7, none⟩ = some (.int .i64 r.pid) := HTr.out.cell 7
      have c8 : wr.cell? ⟨w.heap.size, 8, none⟩ = some (.int .i64 r.seq) := HTr.out.cell 8
      cases f
      case T =>
        have hix' : ∀ W, (Instr.index 9 (.string (S (fl.map fb))) (.int .i64 (j : Int))).run Tryz.prog W = .ok (.int .u8 84) W := hix
        have HX' : Hid (_ = x) := HX
        simp only [writeF] at HX'
        clear hix HX
        go_wp2_with fail
        refine (rtext_any r.topic (by omega) wr).mono ?_
        rintro e w3 ⟨rfl, hb3⟩
        rw [HX'.out]
        have HB3 : Hid (Below w0.heap.size w0 w3) := HBr.out.trans (hb3.mono HBr.out.size)
        clear hb3 c2 c3 c4 c5 c6 c7 c8
        go_wp2_with fail
        go_roundw
        case rel => exact ⟨j + 1, _, by omega, by go_num, rfl, HN, HB3⟩
        case measure => simp [intOf]; omega
      case K =>
        have hix' : ∀ W, (Instr.index 9 (.string (S (fl.map fb))) (.int .i64 (j : Int))).run Tryz.prog W = .ok (.int .u8 75) W := hix
        have HX' : Hid (_ = x) := HX
        simp only [writeF] at HX'
        clear hix HX
        go_wp2_with fail
        refine (rtext_any r.key (by omega) wr).mono ?_
        rintro e w3 ⟨rfl, hb3⟩
        rw [HX'.out]
        have HB3 : Hid (Below w0.heap.size w0 w3) := HBr.out.trans (hb3.mono HBr.out.size)
        clear hb3 c2 c3 c4 c5 c6 c7 c8
        go_wp2_with fail
        go_roundw
        case rel => exact ⟨j + 1, _, by omega, by go_num, rfl, HN, HB3⟩
        case measure => simp [intOf]; omega
      case V =>
        have hix' : ∀ W, (Instr.index 9 (.string (S (fl.map fb))) (.int .i64 (j : Int))).run Tryz.prog W = .ok (.int .u8 86) W := hix
        have HX' : Hid (_ = x) := HX
        simp only [writeF] at HX'
        clear hix HX
        go_wp2_with fail
        refine (rtext_any r.value (by omega) wr).mono ?_
        rintro e w3 ⟨rfl, hb3⟩
        rw [HX'.out]
        have HB3 : Hid (Below w0.heap.size w0 w3) := HBr.out.trans (hb3.mono HBr.out.size)
        clear hb3 c2 c3 c4 c5 c6 c7 c8
        go_wp2_with fail
        go_roundw
        case rel => exact ⟨j + 1, _, by omega, by go_num, rfl, HN, HB3⟩
        case measure => simp [intOf]; omega
      case O =>
        have hix' : ∀ W, (Instr.index 9 (.string (S (fl.map fb))) (.int .i64 (j : Int))).run Tryz.prog W = .ok (.int .u8 79) W := hix
        have HX' : Hid (_ = x) := HX
        simp only [writeF] at HX'
        clear hix HX
        go_wp2_with fail
        refine (rnumber_any r.off I1.out.1 I1.out.2 wr).mono ?_
        rintro e w3 ⟨rfl, hb3⟩
        rw [HX'.out]
        have HB3 : Hid (Below w0.heap.size w0 w3) := HBr.out.trans (hb3.mono HBr.out.size)
        clear hb3 c2 c3 c4 c5 c6 c7 c8
        go_wp2_with fail
        go_roundw
        case rel => exact ⟨j + 1, _, by omega, by go_num, rfl, HN, HB3⟩
        case measure => simp [intOf]; omega
      case N =>
        have hix' : ∀ W, (Instr.index 9 (.string (S (fl.map fb))) (.int .i64 (j : Int))).run Tryz.prog W = .ok (.int .u8 78) W := hix
        have HX' : Hid (_ = x) := HX
        simp only [writeF] at HX'
        clear hix HX
        go_wp2_with fail
        refine (rnumber_any r.num I2.out.1 I2.out.2 wr).mono ?_
        rintro e w3 ⟨rfl, hb3⟩
        rw [HX'.out]
        have HB3 : Hid (Below w0.heap.size w0 w3) := HBr.out.trans (hb3.mono HBr.out.size)
        clear hb3 c2 c3 c4 c5 c6 c7 c8
        go_wp2_with fail
        go_roundw
        case rel => exact ⟨j + 1, _, by omega, by go_num, rfl, HN, HB3⟩
        case measure => simp [intOf]; omega
      case P =>
        have hix' : ∀ W, (Instr.index 9 (.string (S (fl.map fb))) (.int .i64 (j : Int))).run Tryz.prog W = .ok (.int .u8 80) W := hix
        have HX' : Hid (_ = x) := HX
        simp only [writeF] at HX'
        clear hix HX
        go_wp2_with fail
        refine (rnumber_any r.pid I3.out.1 I3.out.2 wr).mono ?_
        rintro e w3 ⟨rfl, hb3⟩
        rw [HX'.out]
        have HB3 : Hid (Below w0.heap.size w0 w3) := HBr.out.trans (hb3.mono HBr.out.size)
        clear hb3 c2 c3 c4 c5 c6 c7 c8
        go_wp2_with fail
        go_roundw
        case rel => exact ⟨j + 1, _, by omega, by go_num, rfl, HN, HB3⟩
        case measure => simp [intOf]; omega
      case S =>
        have hix' : ∀ W, (Instr.index 9 (.string (S (fl.map fb))) (.int .i64 (j : Int))).run Tryz.prog W = .ok (.int .u8 83) W := hix
        have HX' : Hid (_ = x) := HX
        simp only [writeF] at HX'
        clear hix HX
        go_wp2_with fail
        refine (rnumber_any r.seq I4.out.1 I4.out.2 wr).mono ?_
        rintro e w3 ⟨rfl, hb3⟩
        rw [HX'.out]
        have HB3 : Hid (Below w0.heap.size w0 w3) := HBr.out.trans (hb3.mono HBr.out.size)
        clear hb3 c2 c3 c4 c5 c6 c7 c8
        go_wp2_with fail
        go_roundw
        case rel => exact ⟨j + 1, _, by omega, by go_num, rfl, HN, HB3⟩
        case measure => simp [intOf]; omega
    · have hja : j = fl.length := by omega
      have HF : Hid (S o = S (reqStr r)) := Lib.hid (by rw [HRS.out, HO.out, hja, List.take_length])
      clear hja HO
      go_wp2_with fail
      go_ret
      exact ⟨ret_str HF.out, HB0.out.trans (HBr.out.mono HB0.out.size)⟩
end Go.Proofs.YtepalbldleegiaaGreatDoor.sh
