/-
  A command in memory; what stands behind a line's word, but for requests: walked.
  Conditions: numbers as their types have them; the table of powers of ten is as it was laid.
-/
import Derived.Test.YtepalbldleegiaaGreatDoorSwl
import Derived.Test.YtepalbldleegiaaGreatDoorShc
import Derived.Test.YtepalbldleegiaaGreatDoorSqh
import Derived.Lib.QuietBelow
import Derived.Deep.DeepCutAuto
namespace Go.Proofs.YtepalbldleegiaaGreatDoor.sh
open Go.RowKit
open Go.Lib (itoa decDigits byteCells)

def reqC (r : Req) : List Value := [.int .u32 r.id, .int .i64 r.op, .string (S r.topic), .string (S r.key), .string (S r.value), .int .i64 r.off, .int .i64 r.num, .int .i64 r.pid, .int .i64 r.seq]
def cmdL (c : Cmd) (sR sP : Value) : List Value := [.int .i64 c.verb, .int .i64 c.conn, .int .u32 c.req.id, .int .i64 c.req.op, .string (S c.req.topic), .string (S c.req.key), .string (S c.req.value), .int .i64 c.req.off, .int .i64 c.req.num, .int .i64 c.req.pid, .int .i64 c.req.seq, sR, .int .i64 c.n, sP]
def cmdC (c : Cmd) (sR sP : Value) : Array Value := #[.int .i64 c.verb, .int .i64 c.conn, .int .u32 c.req.id, .int .i64 c.req.op, .string (S c.req.topic), .string (S c.req.key), .string (S c.req.value), .int .i64 c.req.off, .int .i64 c.req.num, .int .i64 c.req.pid, .int .i64 c.req.seq, sR, .int .i64 c.n, sP]
theorem cmd_load {w : World} {g : Nat} {c : Cmd} {sR sP : Value} (h : Blk w g 28 (cmdC c sR sP)) : ∀ (j : Nat) (v : Value), (cmdL c sR sP)[j]? = some v → w.cell? ((⟨g, 0, none⟩ : Addr).add j) = some v := fun j v hv => by
  rw [add_flat, Nat.zero_add, h.cell]
  simpa [cmdL, cmdC] using hv
theorem req_load {w : World} {g : Nat} {c : Cmd} {sR sP : Value} (h : Blk w g 28 (cmdC c sR sP)) : ∀ (j : Nat) (v : Value), (reqC c.req)[j]? = some v → w.cell? ((⟨g, 2, none⟩ : Addr).add j) = some v := fun j v hv => by
  have hj : j < 9 := (List.getElem?_eq_some_iff.1 hv).1
  rw [add_flat, h.cell]
  rcases (by omega : j = 0 ∨ j = 1 ∨ j = 2 ∨ j = 3 ∨ j = 4 ∨ j = 5 ∨ j = 6 ∨ j = 7 ∨ j = 8) with rfl | rfl | rfl | rfl | rfl | rfl | rfl | rfl | rfl <;> exact hv

/-- bytes and ints in memory -/
def BytesAt (w : World) (B : Nat) (A : Option Addr) (l : Bs) : Prop := l ≠ [] → ∃ b off, A = some ⟨b, off, none⟩ ∧ b < B ∧ ∀ (i : Nat) (x : UInt8), l[i]? = some x → w.cell? ⟨b, off + i, none⟩ = some (.int .u8 (x.toNat : Int))
def IntsAt (w : World) (B : Nat) (A : Option Addr) (l : List Int) : Prop := l ≠ [] → ∃ b off, A = some ⟨b, off, none⟩ ∧ b < B ∧ ∀ (i : Nat) (x : Int), l[i]? = some x → w.cell? ⟨b, off + i, none⟩ = some (.int .i64 x)
theorem BytesAt.up {w w' : World} {D : Option Addr} {l : Bs} (h : BytesAt w w.heap.size D l) (hb : Below w.heap.size w w') : BytesAt w' w'.heap.size D l := fun hn => by
  obtain ⟨b, off, e, hlt, hc⟩ := h hn
  exact ⟨b, off, e, Nat.lt_of_lt_of_le hlt hb.size, fun i x hx => (hb.cell (p := ⟨b, off + i, none⟩) hlt).trans (hc i x hx)⟩
theorem IntsAt.up {w w' : World} {D : Option Addr} {l : List Int} (h : IntsAt w w.heap.size D l) (hb : Below w.heap.size w w') : IntsAt w' w'.heap.size D l := fun hn => by
  obtain ⟨b, off, e, hlt, hc⟩ := h hn
  exact ⟨b, off, e, Nat.lt_of_lt_of_le hlt hb.size, fun i x hx => (hb.cell (p := ⟨b, off + i, none⟩) hlt).trans (hc i x hx)⟩

/-- it returns a list of its own, of these texts -/
def WrPost (w : World) (l : List Bs) : Ending → World → Prop := fun e w' => ∃ v, e = .returned v ∧ w'.ownsRow w.heap.size 9 1 v l.length (strV l) ∧ Below w.heap.size w w'
theorem owns_base {w : World} {B B' : Nat} {e : TypeId} {s : Nat} {v : Value} {n : Nat} {xs : List Value} (h : w.ownsRow B e s v n xs) (hb : B' ≤ B) : w.ownsRow B' e s v n xs := by
  refine ⟨h.1, ?_⟩
  rcases h.2 with h0 | ⟨g, cap, cur, e1, h1, rest⟩
  · exact .inl h0
  · exact .inr ⟨g, cap, cur, e1, Nat.le_trans hb h1, rest⟩
theorem itoa_any (n : Int) (h : I64 n) (w : World) (ht : Tab w) :
    Calls Tryz.prog 78 #[.int .i64 n] w fun e w' => e = .returned (.string (S (itoa n))) ∧ Below w.heap.size w w' := by
  refine (Tryz.strconv_Itoa n h.1 h.2 w ht).mono ?_
  rintro e w1 ⟨rfl, k, os, rfl⟩
  exact ⟨rfl, Lib.below_grow _ _ (Nat.le_refl _) k os⟩

theorem label_any (c : Cmd) (sR sP : Value) (w : World) (ht : Tab w) (hc : I64 c.conn) : Calls Tryz.prog 36 #[.agg (cmdC c sR sP)] w (WrPost w [itoa c.conn]) := by
  have hb0 : Below w.heap.size w (w.alloc (.cells (cmdC c sR sP) 28)) := (Below.refl _ _).alloc (Nat.le_refl _) _
  have HB0 := Lib.hid hb0
  have HT := Lib.hid ht
  clear hb0 ht
  unfold cmdC at HB0 ⊢
  go_enter Tryz.func36, Tryz.ntmps36
  go_wp2_with fail
  refine (itoa_any c.conn hc _ (tab_below HT.out HB0.out)).mono ?_
  rintro e w1 ⟨rfl, hb1⟩
  have HB1 : Hid (Below w.heap.size w w1) := HB0.out.trans (hb1.mono HB0.out.size)
  clear hb1
  go_wp2_with fail
  go_ret
  exact ⟨_, rfl, own_built w1 _ _ _ _ _ HB1.out.size rfl rfl (by decide), HB1.out.alloc HB1.out.size _⟩
theorem amount_any (c : Cmd) (sR sP : Value) (w : World) (ht : Tab w) (hc : I64 c.n) : Calls Tryz.prog 46 #[.agg (cmdC c sR sP)] w (WrPost w [itoa c.n]) := by
  have hb0 : Below w.heap.size w (w.alloc (.cells (cmdC c sR sP) 28)) := (Below.refl _ _).alloc (Nat.le_refl _) _
  have HB0 := Lib.hid hb0
  have HT := Lib.hid ht
  clear hb0 ht
  unfold cmdC at HB0 ⊢
  go_enter Tryz.func46, Tryz.ntmps46
  go_wp2_with fail
  refine (number_any c.n hc.1 hc.2 _ (tab_below HT.out HB0.out)).mono ?_
  rintro e w1 ⟨rfl, hb1⟩
  have HB1 : Hid (Below w.heap.size w w1) := HB0.out.trans (hb1.mono HB0.out.size)
  clear hb1
  go_wp2_with fail
  go_ret
  exact ⟨_, rfl, own_built w1 _ _ _ _ _ HB1.out.size rfl rfl (by decide), HB1.out.alloc HB1.out.size _⟩
theorem nothing_any (c : Cmd) (sR sP : Value) (w : World) : Calls Tryz.prog 56 #[.agg (cmdC c sR sP)] w (WrPost w []) := by
  unfold cmdC
  go_enter Tryz.func56, Tryz.ntmps56
  go_wp2_with fail
  go_ret
  exact ⟨_, rfl, World.ownsRow_nil _ _ _ _, (Below.refl _ _).alloc (Nat.le_refl _) _⟩
set_option maxRecDepth 100000 in
set_option maxHeartbeats 4000000 in
theorem picks_any (c : Cmd) (sR : Value) (P : Option Addr) (p : Nat) (w : World) (ht : Tab w) (hc : ∀ x ∈ c.picks, I64 x) (hn : c.picks.length ≤ 1048576) (hp : IntsAt w w.heap.size P c.picks) : Calls Tryz.prog 49 #[.agg (cmdC c sR (.slice P c.picks.length p))] w (WrPost w (c.picks.map itoa)) := by
  obtain ⟨i0, hi0, hz0, hz1, hz2⟩ := info_parts infoStr
  have hb0 : Below w.heap.size w (w.alloc (.cells (cmdC c sR (.slice P c.picks.length p)) 28)) := (Below.refl _ _).alloc (Nat.le_refl _) _
  have HB0 := Lib.hid hb0
  have HT := Lib.hid ht
  have HP := Lib.hid hp
  have HC := Lib.hid hc
  clear hb0 ht hp hc
  unfold cmdC at HB0 ⊢
  go_enter Tryz.func49, Tryz.ntmps49
  go_wp2_with fail
  go_loopw [3, 9] (fun s3 i wr => ∃ (j : Nat), j ≤ c.picks.length ∧ i = .int .i64 j ∧ Hid (Below w.heap.size w wr) ∧ Hid (wr.ownsRow w.heap.size 9 1 s3 j (strV ((c.picks.take j).map itoa)))) (fun _ i _ => c.picks.length - (intOf i).toNat)
  case atStart => exact ⟨0, Nat.zero_le _, rfl, HB0, World.ownsRow_nil _ _ _ _⟩
  case round =>
    obtain ⟨j, hj, rfl, HBr, HOr⟩ := hrel
    by_cases hlt : j < c.picks.length
    · obtain ⟨b, off, rfl, hb, hcl⟩ := HP.out (by intro e; rw [e] at hlt; simp at hlt)
      obtain ⟨x, hx⟩ : ∃ x, c.picks[j] = x := ⟨_, rfl⟩
      have q0 := (HBr.out.cell (p := ⟨b, off + j, none⟩) hb).trans (hcl j x (by rw [← hx]; exact List.getElem?_eq_getElem hlt))
      have hxi := HC.out x (by rw [← hx]; exact List.getElem_mem hlt)
      have HX := Lib.hid hx
      clear hcl hb hx
      go_wp2_with fail
      refine (itoa_any x hxi wr (tab_below HT.out HBr.out)).mono ?_
      rintro e w2 ⟨rfl, hb2⟩
      have HB2 : Hid (Below w.heap.size w w2) := HBr.out.trans (hb2.mono HBr.out.size)
      have HO2 := Lib.hid (own_keep HOr.out hb2)
      clear hb2 HBr HOr q0 hxi
      simp only []
      go_step
      go_step
      go_step
      go_step
      refine wpList_append_own (w2.alloc (.cells #[.string (S (itoa x))] 9)) rfl (.tmp 13) (.tmp 16) 43 rfl w.heap.size 9 i0 _ 1 16 Tryz.underlying43 hi0 hz0 hz1 hz2 rfl (by decide) _ j _ rfl (HO2.out.alloc _) ⟨w2.heap.size, 0, none⟩ 1 1 (strV [itoa x]) rfl rfl (built_cells w2 _ _ _ rfl) (strV_one _) (le_maxLen (by omega)) (by omega) (le_alloc _ HB2.out.size) ?_
      intro v6 w6 hown6 hg6 _
      have HB6 : Hid (Below w.heap.size w w6) := (HB2.out.alloc HB2.out.size _).grown hg6 (le_alloc _ HB2.out.size) (fun q hq => (HO2.out.lt q hq).1)
      have HO6 : Hid (w6.ownsRow w.heap.size 9 1 v6 (j + 1) (strV ((c.picks.take (j + 1)).map itoa))) := Lib.hid (by
        rw [List.take_succ_eq_append_getElem hlt, HX.out, List.map_append, strV_append]
        exact hown6)
      clear hown6 hg6 HO2 HB2 HX
      go_wp2_with fail
      go_roundw
      case rel => exact ⟨j + 1, by omega, by go_num, HB6, HO6⟩
      case measure => simp [intOf]; omega
    · have hja : j = c.picks.length := by omega
      have HO2 : Hid (wr.ownsRow w.heap.size 9 1 u3 (c.picks.map itoa).length (strV (c.picks.map itoa))) := Lib.hid (by have := HOr.out; rw [hja, List.take_length] at this; rw [List.length_map]; exact this)
      clear hja HOr
      go_wp2_with fail
      go_ret
      exact ⟨_, rfl, HO2.out, HBr.out⟩
end Go.Proofs.YtepalbldleegiaaGreatDoor.sh
