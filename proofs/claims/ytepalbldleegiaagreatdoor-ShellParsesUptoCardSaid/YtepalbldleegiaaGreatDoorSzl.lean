/-
  The law's copy of a command, with a mark behind each list, and its last look at it: walked.
  Conditions: lists of at most a megabyte.
-/
import Derived.Test.YtepalbldleegiaaGreatDoorSzg
namespace Go.Proofs.YtepalbldleegiaaGreatDoor.sh
open Go.RowKit
open Go.Lib (itoa decDigits byteCells atoiAll)

theorem infoInt8 : (Tryz.prog.info? 3).map (fun i => (i.zero, i.size, i.bytes)) = some (some (.int .i64 0), 1, 8) := by kernel_rfl
def intV (xs : List Int) : List Value := xs.map (Value.int .i64)
/-- what a block's cells begin with -/
def HasV (cs : Array Value) (l : List Value) : Prop := ∀ (k : Nat) (v : Value), l[k]? = some v → cs[k]? = some v
theorem HasV.lt {cs : Array Value} {l : List Value} (h : HasV cs l) {k : Nat} (hk : k < l.length) : k < cs.size := by
  have := h k l[k] (List.getElem?_eq_getElem hk)
  exact (Array.getElem?_eq_some_iff.1 this).1
theorem HasV.put {cs : Array Value} {l : List Value} (h : HasV cs l) {k : Nat} (hk : k < l.length) (x : Value) : HasV (putFrom cs k [x]) (l.set k x) := by
  intro i y hy
  by_cases hik : i = k
  · subst hik
    have hlt := h.lt hk
    rw [List.getElem?_set_self hk] at hy
    injection hy with hy
    subst hy
    have := putFrom_in [x] cs i 0 (by simp) (by simp only [List.length_cons, List.length_nil]; omega)
    simpa using this
  · rw [List.getElem?_set_ne (Ne.symm hik)] at hy
    rw [putFrom_out _ _ _ _ (by simp only [List.length_cons, List.length_nil]; omega)]
    exact h i y hy
theorem HasV.of_take {cs : Array Value} {l : List Value} {n : Nat} (h : cs.toList.take n = l) : HasV cs l := by
  intro k v hv
  rw [← h, List.getElem?_take] at hv
  split at hv
  · simpa using hv
  · cases hv
theorem bytes_has {w : World} {g : Nat} {t : TypeId} {cs : Array Value} {l : Bs} {m : List Value} (hb : Blk w g t cs) (h : HasV cs (byteCells l ++ m)) : BytesAt w w.heap.size (some ⟨g, 0, none⟩) l := fun _ =>
  ⟨g, 0, rfl, hb.lt, fun i x hx => by
    rw [Nat.zero_add, hb.cell]
    refine h i _ ?_
    have : (byteCells l)[i]? = some (.int .u8 (x.toNat : Int)) := by simp only [byteCells, List.getElem?_map, hx, Option.map_some]
    rw [List.getElem?_append_left (List.getElem?_eq_some_iff.1 this).1, this]⟩
theorem ints_has {w : World} {g : Nat} {t : TypeId} {cs : Array Value} {l : List Int} {m : List Value} (hb : Blk w g t cs) (h : HasV cs (intV l ++ m)) : IntsAt w w.heap.size (some ⟨g, 0, none⟩) l := fun _ =>
  ⟨g, 0, rfl, hb.lt, fun i x hx => by
    rw [Nat.zero_add, hb.cell]
    refine h i _ ?_
    have : (intV l)[i]? = some (.int .i64 x) := by simp only [intV, List.getElem?_map, hx, Option.map_some]
    rw [List.getElem?_append_left (List.getElem?_eq_some_iff.1 this).1, this]⟩
theorem gbrefl_l (w : World) (row : Option Nat) : w.grownBy w row := ⟨rfl, rfl, rfl, Nat.le_refl _, fun _ _ _ => rfl⟩
theorem byteCells_len (l : Bs) : (byteCells l).length = l.length := by simp [byteCells]
theorem intV_len (l : List Int) : (intV l).length = l.length := by simp [intV]
theorem byteCells_one (l : Bs) : ∀ u ∈ byteCells l, u.oneCell' = true := by
  intro u hu
  simp only [byteCells, List.mem_map] at hu
  obtain ⟨x, -, rfl⟩ := hu
  rfl
theorem intV_one (l : List Int) : ∀ u ∈ intV l, u.oneCell' = true := by
  intro u hu
  simp only [intV, List.mem_map] at hu
  obtain ⟨x, -, rfl⟩ := hu
  rfl
theorem own_slot {w : World} {B : Nat} {e : TypeId} {s : Nat} {v : Value} {n : Nat} {xs : List Value} (h : w.ownsRow B e s v n xs) : v.cells = #[v] ∧ v.oneCell' = true := by
  rcases h.2 with ⟨rfl, -⟩ | ⟨g, cap, cur, rfl, -⟩ <;> exact ⟨rfl, rfl⟩
theorem own_block {w : World} {B : Nat} {e : TypeId} {v : Value} {n : Nat} {xs : List Value} (h : w.ownsRow B e 1 v n xs) (hn : 0 < n) : ∃ g k cs, v = .slice (some ⟨g, 0, none⟩) n k ∧ B ≤ g ∧ n ≤ k ∧ k ≤ maxLen ∧ Blk w g e cs ∧ HasV cs xs := by
  rcases h.2 with ⟨-, h0⟩ | ⟨g, cap, cur, rfl, hb, hg, hc, hm, -, ht⟩
  · omega
  · exact ⟨g, cap, cur, rfl, hb, hc, hm, hg, HasV.of_take ht⟩
theorem bytes_src {w : World} {B : Nat} {A : Option Addr} {l : Bs} (h : BytesAt w B A l) : l.length = 0 ∨ ∃ ad, A = some ad ∧ ∀ j u, (byteCells l)[j]? = some u → w.cell? (ad.add j) = some u := by
  by_cases hn : l = []
  · exact Or.inl (by rw [hn]; rfl)
  · obtain ⟨b, off, e, -, hc⟩ := h hn
    refine Or.inr ⟨_, e, fun j u hu => ?_⟩
    simp only [byteCells, List.getElem?_map, Option.map_eq_some_iff] at hu
    obtain ⟨x, hx, rfl⟩ := hu
    rw [add_flat]
    exact hc j x hx
theorem ints_src {w : World} {B : Nat} {A : Option Addr} {l : List Int} (h : IntsAt w B A l) : l.length = 0 ∨ ∃ ad, A = some ad ∧ ∀ j u, (intV l)[j]? = some u → w.cell? (ad.add j) = some u := by
  by_cases hn : l = []
  · exact Or.inl (by rw [hn]; rfl)
  · obtain ⟨b, off, e, -, hc⟩ := h hn
    refine Or.inr ⟨_, e, fun j u hu => ?_⟩
    simp only [intV, List.getElem?_map, Option.map_eq_some_iff] at hu
    obtain ⟨x, hx, rfl⟩ := hu
    rw [add_flat]
    exact hc j x hx

/-- append of a list that may be empty, wherever it lies -/
theorem wpList_append_src {P : Program} {w : World} {ops : Array Oper} {rest : List Oper} {o : Oper} {a : Act} {Q : Exit → Act → World → Prop} (hgd : o.guard = none) (s x : Operand) (t : TypeId)
    (ho : o.op = .call { callee := .builtin .append, args := #[s, x], argTypes := #[t, t] })
    (base : Nat) (e : TypeId) (i : TypeInfo) (z : Value) (bytes : Nat) (ht : P.underlying t = some (.slice e)) (hi : P.info? e = some i) (hz : i.zero = some z)
    (hsize : i.size = 1) (hby : i.bytes = bytes) (hzs : z.cells.size = 1)
    (v : Value) (n : Nat) (xs : List Value) (hs : a.eval s = v) (hown : w.ownsRow base e 1 v n xs)
    (X : Option Addr) (m c : Nat) (news : List Value) (hx : a.eval x = .slice X m c) (hl : news.length = m) (hnews : m = 0 ∨ ∃ ad, X = some ad ∧ ∀ j u, news[j]? = some u → w.cell? (ad.add j) = some u) (h1 : ∀ u ∈ news, u.oneCell' = true)
    (h63 : n + m ≤ maxLen) (hbytes : (n + m) * bytes ≤ 140737488355328) (hbase : base ≤ w.heap.size)
    (h : ∀ v' w', w'.ownsRow base e 1 v' (n + m) (xs ++ news) → w.grownBy w' v.ownBlock → wpList P ops Q rest (a.put o.dst v') w') : wpList P ops Q (o :: rest) a w := by
  cases X with
  | some ad =>
    refine wpList_append_own w hgd s x t ho base e i z 1 bytes ht hi hz hsize hby hzs (by decide) v n xs hs hown ad m c news hx (by rw [hl, Nat.mul_one]) ?_ h1 h63 hbytes hbase fun v' w' h2 h3 _ => h v' w' h2 h3
    rcases hnews with h0 | ⟨ad', e', hc⟩
    · intro j u hu
      rw [List.eq_nil_of_length_eq_zero (hl.trans h0)] at hu
      simp at hu
    · injection e' with e'
      subst e'
      exact hc
  | none =>
    have hm : m = 0 := by
      rcases hnews with h0 | ⟨ad', e', -⟩
      · exact h0
      · cases e'
    subst hm
    have hn0 : news = [] := List.eq_nil_of_length_eq_zero hl
    subst hn0
    refine wpList_plain hgd fun K hK => ?_
    have hrun : (Builtin.append_ #[t, t] o.type #[v, .slice none 0 c]).run P w = .ok v w := by
      rcases hown.2 with ⟨rfl, -⟩ | ⟨g, cap, cur, rfl, -, -, hc, -⟩
      · simp [Builtin.append_, run_underlying ht, sizeOf, typeInfo, hi, Builtin.lenOf, Builtin.firstCells]
      · simp [Builtin.append_, run_underlying ht, sizeOf, typeInfo, hi, Builtin.lenOf, hc, Builtin.firstCells, storeCells]
    unfold Oper.wp execOp
    simp only [ho, resolve, invoke, builtin, Sem.run_bind, Sem.run_pure, Result.andThen_ok, List.map_toArray, List.map_cons, List.map_nil, hs, hx, hrun]
    exact hK _ _ (h v w (by rw [List.append_nil]; exact hown) (gbrefl_l w _))

def zCmd : Array Value := #[.int .i64 0, .int .i64 0, .int .u32 0, .int .i64 0, .string ⟨#[]⟩, .string ⟨#[]⟩, .string ⟨#[]⟩, .int .i64 0, .int .i64 0, .int .i64 0, .int .i64 0, .slice none 0 0, .int .i64 0, .slice none 0 0]
theorem cmdL_onel (c : Cmd) (x y : Value) (hx : x.oneCell' = true) (hy : y.oneCell' = true) : ∀ u ∈ cmdL c x y, u.oneCell' = true := by
  intro u hu
  simp only [cmdL, List.mem_cons, List.not_mem_nil, or_false] at hu
  rcases hu with rfl | rfl | rfl | rfl | rfl | rfl | rfl | rfl | rfl | rfl | rfl | rfl | rfl | rfl <;> first | rfl | assumption
theorem put11 (c : Cmd) (x y v : Value) : putFrom (cmdC c x y) 11 [v] = cmdC c v y := by simp [putFrom, cmdC]
theorem put13 (c : Cmd) (x y v : Value) : putFrom (cmdC c x y) 13 [v] = cmdC c x v := by simp [putFrom, cmdC]
theorem putAll (c : Cmd) (x y : Value) (cs : Array Value) (h : cs.size = 14) : putFrom cs 0 (cmdL c x y) = cmdC c x y := by
  obtain ⟨l⟩ := cs
  match l, h with
  | [a0, a1, a2, a3, a4, a5, a6, a7, a8, a9, a10, a11, a12, a13], _ => simp [putFrom, cmdC, cmdL]

/-- what copied gives -/
def CopPost (c : Cmd) (w : World) (e : Ending) (w' : World) : Prop :=
  ∃ bR kR bP kP, e = .returned (.agg (cmdC c (.slice (some ⟨bR, 0, none⟩) c.raw.length kR) (.slice (some ⟨bP, 0, none⟩) c.picks.length kP))) ∧ Below w.heap.size w w' ∧ w.heap.size ≤ bR ∧ w.heap.size ≤ bP ∧ c.raw.length + 1 ≤ kR ∧ kR ≤ maxLen ∧ c.picks.length + 1 ≤ kP ∧ kP ≤ maxLen ∧
    (∃ cs, Blk w' bR 5 cs ∧ HasV cs (byteCells c.raw ++ [.int .u8 77])) ∧ ∃ cs, Blk w' bP 3 cs ∧ HasV cs (intV c.picks ++ [.int .i64 (-77)])

set_option maxRecDepth 100000 in
set_option maxHeartbeats 8000000 in
theorem copied_any (c : Cmd) (A : Option Addr) (a : Nat) (P : Option Addr) (p : Nat) (w : World) (hr : BytesAt w w.heap.size A c.raw) (hp : IntsAt w w.heap.size P c.picks) (hl : c.raw.length ≤ 1048576) (hl' : c.picks.length ≤ 1048576) :
    Calls Tryz.prog 8 #[.agg (cmdC c (.slice A c.raw.length a) (.slice P c.picks.length p))] w (CopPost c w) := by
  obtain ⟨iB, hiB, hb0_, hb1_, hb2_⟩ := info_parts infoByte
  obtain ⟨iI, hiI, hi0_, hi1_, hi2_⟩ := info_parts infoInt8
  have hT1 := (Blk.new w 28 (cmdC c (.slice A c.raw.length a) (.slice P c.picks.length p))).alloc (.cells zCmd 28)
  have hT2 := Blk.new (w.alloc (.cells (cmdC c (.slice A c.raw.length a) (.slice P c.picks.length p)) 28)) 28 zCmd
  rw [World.size_alloc] at hT2
  have hb1 : Below w.heap.size w (w.alloc (.cells (cmdC c (.slice A c.raw.length a) (.slice P c.picks.length p)) 28)) := (Below.refl _ _).alloc (Nat.le_refl _) _
  have hb0 := hb1.alloc hb1.size (.cells zCmd 28)
  have hsz0 : ((w.alloc (.cells (cmdC c (.slice A c.raw.length a) (.slice P c.picks.length p)) 28)).alloc (.cells zCmd 28)).heap.size = w.heap.size + 2 := by rw [World.size_alloc, World.size_alloc]
  have HR := Lib.hid hr
  have HP := Lib.hid hp
  clear hr hp hb1
  obtain ⟨rl, hrl⟩ : ∃ n, c.raw.length = n := ⟨_, rfl⟩
  obtain ⟨pl, hpl⟩ : ∃ n, c.picks.length = n := ⟨_, rfl⟩
  rw [hrl] at hT1 hT2 hb0 hsz0 hl
  rw [hpl] at hT1 hT2 hb0 hsz0 hl'
  rw [hrl, hpl]
  have HRL := Lib.hid hrl
  have HPL := Lib.hid hpl
  clear hrl hpl
  unfold zCmd at hT1 hT2 hb0 hsz0
  generalize hcs : cmdC c (.slice A rl a) (.slice P pl p) = cs at hT1 hT2 hb0 hsz0 ⊢
  have HCS := Lib.hid hcs
  clear hcs
  go_enter Tryz.func8, Tryz.ntmps8
  go_upto_region 1 with fail
  generalize hw0 : (w.alloc _).alloc _ = w0 at hT1 hT2 hb0 hsz0 ⊢
  have HB0 := Lib.hid hb0
  have HS0 := Lib.hid hsz0
  have HT1 : Hid (Blk w0 w.heap.size 28 (cmdC c (.slice A rl a) (.slice P pl p))) := Lib.hid (by rw [HCS.out]; exact hT1)
  have HT2 : Hid (Blk w0 (w.heap.size + 1) 28 zCmd) := hT2
  clear hw0 hT1 hT2 hb0 hsz0
  have q11 : w0.cell? ⟨w.heap.size, 11, none⟩ = some (.slice A rl a) := HT1.out.cell 11
  have q13 : w0.cell? ⟨w.heap.size, 13, none⟩ = some (.slice P pl p) := HT1.out.cell 13
  go_upto_region 3 with fail
  have q11a : ∀ o, (w0.alloc o).cell? ⟨w.heap.size, 11, none⟩ = some (.slice A rl a) := fun o => (HT1.out.alloc o).cell 11
  have HOE : Hid ((w0.alloc (.cells #[] 5)).ownsRow (w.heap.size + 2) 5 1 (.slice (some ⟨w0.heap.size, 0, none⟩) 0 0) 0 []) := Lib.hid (own_built w0 _ _ _ _ 0 (by rw [HS0.out]; exact Nat.le_refl _) rfl rfl (by simp [maxLen]))
  clear q13
  go_wp2_with (first
    | ((with_reducible refine at_op ⟨_, .call { callee := .builtin .append, args := #[.tmp 11, .tmp 13], argTypes := #[25, 25] }, _, _, _, _⟩ ?_); refine wpList_append_src rfl (.tmp 11) (.tmp 13) 25 rfl (w.heap.size + 2) 5 iB _ 1 Tryz.underlying25 hiB hb0_ hb1_ hb2_ rfl _ 0 [] rfl HOE.out A rl a (byteCells c.raw) rfl (by rw [byteCells_len]; exact HRL.out) ?s1 (byteCells_one _) ?s2 ?s3 ?s4 ?_)
    | fail)
  case s1 =>
    have := bytes_src (HR.out.up (HB0.out.alloc HB0.out.size (.cells #[] 5)))
    rw [HRL.out] at this
    exact this
  case s2 => exact le_maxLen (by omega)
  case s3 => omega
  case s4 => exact le_alloc _ (by rw [HS0.out]; exact Nat.le_refl _)
  intro v6 w6 hown6 hg6
  have HK6 : Hid (Below w0.heap.size w0 w6) := ((Below.refl _ _).alloc (Nat.le_refl _) _).grown hg6 (le_alloc _ (Nat.le_refl _)) (fun q hq => by simp only [Value.ownBlock, Option.some.injEq] at hq; omega)
  have HO6 : Hid ((w6.alloc (.cells #[.int .u8 77] 5)).ownsRow (w.heap.size + 2) 5 1 v6 rl (byteCells c.raw)) := hown6.alloc _
  clear hown6 hg6 q11 q11a HOE
  go_wp2_with (first
    | ((with_reducible refine at_op ⟨_, .call { callee := .builtin .append, args := #[.tmp 14, .tmp 15], argTypes := #[25, 25] }, _, _, _, _⟩ ?_); refine wpList_append_src rfl (.tmp 14) (.tmp 15) 25 rfl (w.heap.size + 2) 5 iB _ 1 Tryz.underlying25 hiB hb0_ hb1_ hb2_ rfl _ rl (byteCells c.raw) rfl HO6.out (some ⟨w6.heap.size, 0, none⟩) 1 1 [.int .u8 77] rfl rfl (Or.inr ⟨_, rfl, built_cells w6 _ _ _ rfl⟩) (fun u hu => by rw [List.mem_singleton] at hu; subst hu; rfl) ?s2 ?s3 ?s4 ?_)
    | fail)
  case s2 => exact le_maxLen (by omega)
  case s3 => omega
  case s4 => exact le_alloc _ (Nat.le_trans (Nat.le_of_eq HS0.out.symm) HK6.out.size)
  intro v8 w8 hown8 hg8
  have HK8 : Hid (Below w0.heap.size w0 w8) := (HK6.out.alloc HK6.out.size _).grown hg8 (le_alloc _ HK6.out.size) (fun q hq => by have := (HO6.out.lt q hq).1; rw [HS0.out]; exact this)
  have HO8 := Lib.hid hown8
  clear hown8 hg8 HO6 HK6
  have HC8 := Lib.hid (own_slot HO8.out)
  have HT1b : Hid (Blk w8 w.heap.size 28 (cmdC c (.slice A rl a) (.slice P pl p))) := HT1.out.below HK8.out HT1.out.lt
  go_upto_region 4 with (first
    | ((with_reducible refine at_op ⟨_, .store 25 (.tmp 17) (.tmp 16), _, _, _, _⟩ ?_); refine wpList_store_one rfl 25 (.tmp 17) (.tmp 16) rfl w.heap.size 11 rfl v8 rfl HC8.out.1 HC8.out.2 28 (cmdC c (.slice A rl a) (.slice P pl p)) HT1b.out (show 11 + 1 ≤ 14 by decide) (by kernel_rfl) ?_; rw [put11]; intro w9 hT9 hg9 hs9; have HT9 := Lib.hid hT9; have HG9 := Lib.hid hg9; have HS9 := Lib.hid hs9; clear hT9 hg9 hs9)
    | fail)
  obtain ⟨bR, kR, cR, rfl, hbR, hkR, hmR, hB8, hH8⟩ := own_block HO8.out (Nat.succ_pos _)
  have hlt1 : w.heap.size < bR := by omega
  have HS8 : Hid (w.heap.size + 2 ≤ w8.heap.size) := Lib.hid (by rw [← HS0.out]; exact HK8.out.size)
  have HB9 : Hid (Below w.heap.size w w9) := below_gb (HB0.out.trans (HK8.out.mono HB0.out.size)) HG9.out (by have := HS8.out; omega) (Nat.le_refl _)
  have HT29 : Hid (Blk w9 (w.heap.size + 1) 28 zCmd) := Lib.hid ((HT2.out.below HK8.out HT2.out.lt).gb HG9.out (by omega))
  have HR9 : Hid (Blk w9 bR 5 cR) := Lib.hid (hB8.gb HG9.out (by omega))
  have HBR : Hid (w.heap.size + 2 ≤ bR) := hbR
  have HKR : Hid (rl + 1 ≤ kR ∧ kR ≤ maxLen) := ⟨hkR, hmR⟩
  have HH8 := Lib.hid hH8
  have HSZ9 : Hid (w.heap.size + 2 ≤ w9.heap.size) := Lib.hid (by rw [HS9.out]; exact HS8.out)
  clear HG9 HS9 HK8 HO8 HC8 HT1b hbR hkR hmR hB8 hH8 hlt1 HS8 HT1 HT2 HB0 HS0
  have q13a : ∀ o, (w9.alloc o).cell? ⟨w.heap.size, 13, none⟩ = some (.slice P pl p) := fun o => (HT9.out.alloc o).cell 13
  have HOE : Hid ((w9.alloc (.cells #[] 3)).ownsRow w9.heap.size 3 1 (.slice (some ⟨w9.heap.size, 0, none⟩) 0 0) 0 []) := Lib.hid (own_built w9 _ _ _ _ 0 (Nat.le_refl _) rfl rfl (by simp [maxLen]))
  go_wp2_with (first
    | ((with_reducible refine at_op ⟨_, .call { callee := .builtin .append, args := #[.tmp 18, .tmp 20], argTypes := #[26, 26] }, _, _, _, _⟩ ?_); refine wpList_append_src rfl (.tmp 18) (.tmp 20) 26 rfl w9.heap.size 3 iI _ 8 Tryz.underlying26 hiI hi0_ hi1_ hi2_ rfl _ 0 [] rfl HOE.out P pl p (intV c.picks) rfl (by rw [intV_len]; exact HPL.out) ?s1 (intV_one _) ?s2 ?s3 ?s4 ?_)
    | fail)
  case s1 =>
    have := ints_src (HP.out.up (HB9.out.alloc HB9.out.size (.cells #[] 3)))
    rw [HPL.out] at this
    exact this
  case s2 => exact le_maxLen (by omega)
  case s3 => omega
  case s4 => exact le_alloc _ (Nat.le_refl _)
  intro v6 w12 hown6 hg6
  have HK6 : Hid (Below w9.heap.size w9 w12) := ((Below.refl _ _).alloc (Nat.le_refl _) _).grown hg6 (le_alloc _ (Nat.le_refl _)) (fun q hq => by simp only [Value.ownBlock, Option.some.injEq] at hq; omega)
  have HO6 : Hid ((w12.alloc (.cells #[.int .i64 (-77)] 3)).ownsRow w9.heap.size 3 1 v6 pl (intV c.picks)) := hown6.alloc _
  clear hown6 hg6 q13a HOE
  go_wp2_with (first
    | ((with_reducible refine at_op ⟨_, .call { callee := .builtin .append, args := #[.tmp 21, .tmp 22], argTypes := #[26, 26] }, _, _, _, _⟩ ?_); refine wpList_append_src rfl (.tmp 21) (.tmp 22) 26 rfl w9.heap.size 3 iI _ 8 Tryz.underlying26 hiI hi0_ hi1_ hi2_ rfl _ pl (intV c.picks) rfl HO6.out (some ⟨w12.heap.size, 0, none⟩) 1 1 [.int .i64 (-77)] rfl rfl (Or.inr ⟨_, rfl, built_cells w12 _ _ _ rfl⟩) (fun u hu => by rw [List.mem_singleton] at hu; subst hu; rfl) ?s2 ?s3 ?s4 ?_)
    | fail)
  case s2 => exact le_maxLen (by omega)
  case s3 => omega
  case s4 => exact le_alloc _ HK6.out.size
  intro v14 w14 hown14 hg14
  have HK14 : Hid (Below w9.heap.size w9 w14) := (HK6.out.alloc HK6.out.size _).grown hg14 (le_alloc _ HK6.out.size) (fun q hq => (HO6.out.lt q hq).1)
  have HO14 := Lib.hid hown14
  clear hown14 hg14 HO6 HK6
  have HC14 := Lib.hid (own_slot HO14.out)
  have HT14 : Hid (Blk w14 w.heap.size 28 (cmdC c (.slice (some ⟨bR, 0, none⟩) (rl + 1) kR) (.slice P pl p))) := HT9.out.below HK14.out HT9.out.lt
  go_upto_region 5 with (first
    | ((with_reducible refine at_op ⟨_, .store 26 (.tmp 24) (.tmp 23), _, _, _, _⟩ ?_); refine wpList_store_one rfl 26 (.tmp 24) (.tmp 23) rfl w.heap.size 13 rfl v14 rfl HC14.out.1 HC14.out.2 28 (cmdC c (.slice (some ⟨bR, 0, none⟩) (rl + 1) kR) (.slice P pl p)) HT14.out (show 13 + 1 ≤ 14 by decide) (by kernel_rfl) ?_; rw [put13]; intro w15 hT15 hg15 hs15; have HT15 := Lib.hid hT15; have HG15 := Lib.hid hg15; have HS15 := Lib.hid hs15; clear hT15 hg15 hs15)
    | fail)
  obtain ⟨bP, kP, cP, rfl, hbP, hkP, hmP, hB14, hH14⟩ := own_block HO14.out (Nat.succ_pos _)
  have HSZ14 : Hid (w9.heap.size ≤ w14.heap.size) := HK14.out.size
  have HB15 : Hid (Below w.heap.size w w15) := below_gb (HB9.out.trans (HK14.out.mono HB9.out.size)) HG15.out (Nat.le_trans HB9.out.size HSZ14.out) (Nat.le_refl _)
  have HT215 : Hid (Blk w15 (w.heap.size + 1) 28 zCmd) := Lib.hid ((HT29.out.below HK14.out HT29.out.lt).gb HG15.out (by omega))
  have HR15 : Hid (Blk w15 bR 5 cR) := Lib.hid ((HR9.out.below HK14.out HR9.out.lt).gb HG15.out (by have := HBR.out; omega))
  have HP15 : Hid (Blk w15 bP 3 cP) := Lib.hid (hB14.gb HG15.out (by have := HSZ9.out; omega))
  have HBP : Hid (w.heap.size + 2 ≤ bP) := Lib.hid (Nat.le_trans HSZ9.out hbP)
  have HKP : Hid (pl + 1 ≤ kP ∧ kP ≤ maxLen) := ⟨hkP, hmP⟩
  have HH14 := Lib.hid hH14
  have HSZ15 : Hid (w.heap.size + 2 ≤ w15.heap.size) := Lib.hid (by rw [HS15.out]; exact Nat.le_trans HSZ9.out HSZ14.out)
  clear HG15 HS15 HK14 HO14 HC14 HT14 hbP hkP hmP hB14 hH14 HT9 HT29 HR9 HB9 HSZ9 HSZ14
  have q11 : w15.cell? ⟨w.heap.size, 11, none⟩ = some (.slice (some ⟨bR, 0, none⟩) (rl + 1) kR) := HT15.out.cell 11
  obtain ⟨hk1, hk2⟩ := HKR.out
  go_upto_region 6 with (first
    | ((with_reducible refine at_op ⟨_, .store 25 (.tmp 29) (.tmp 28), _, _, _, _⟩ ?_); refine wpList_store_one rfl 25 (.tmp 29) (.tmp 28) rfl w.heap.size 11 rfl (.slice (some ⟨bR, 0, none⟩) rl kR) rfl rfl rfl 28 (cmdC c (.slice (some ⟨bR, 0, none⟩) (rl + 1) kR) (.slice (some ⟨bP, 0, none⟩) (pl + 1) kP)) HT15.out (show 11 + 1 ≤ 14 by decide) (by kernel_rfl) ?_; rw [put11]; intro w16 hT16 hg16 hs16; have HT16 := Lib.hid hT16; have HG16 := Lib.hid hg16; have HS16 := Lib.hid hs16; clear hT16 hg16 hs16)
    | fail)
  clear q11 hk1 hk2
  have q13 : w16.cell? ⟨w.heap.size, 13, none⟩ = some (.slice (some ⟨bP, 0, none⟩) (pl + 1) kP) := HT16.out.cell 13
  obtain ⟨hk1, hk2⟩ := HKP.out
  go_upto_region 7 with (first
    | ((with_reducible refine at_op ⟨_, .store 26 (.tmp 34) (.tmp 33), _, _, _, _⟩ ?_); refine wpList_store_one rfl 26 (.tmp 34) (.tmp 33) rfl w.heap.size 13 rfl (.slice (some ⟨bP, 0, none⟩) pl kP) rfl rfl rfl 28 (cmdC c (.slice (some ⟨bR, 0, none⟩) rl kR) (.slice (some ⟨bP, 0, none⟩) (pl + 1) kP)) HT16.out (show 13 + 1 ≤ 14 by decide) (by kernel_rfl) ?_; rw [put13]; intro w17 hT17 hg17 hs17; have HT17 := Lib.hid hT17; have HG17 := Lib.hid hg17; have HS17 := Lib.hid hs17; clear hT17 hg17 hs17)
    | fail)
  clear q13 hk1 hk2
  have HT217 : Hid (Blk w17 (w.heap.size + 1) 28 zCmd) := Lib.hid ((HT215.out.gb HG16.out (by omega)).gb HG17.out (by omega))
  go_wp2_with (first
    | ((with_reducible refine at_op ⟨_, .load 28 (.tmp 1), _, _, _, _⟩ ?_); refine wpList_load_list rfl 28 (.tmp 1) rfl ⟨w.heap.size, 0, none⟩ rfl (cmdL c (.slice (some ⟨bR, 0, none⟩) rl kR) (.slice (some ⟨bP, 0, none⟩) pl kP)) (cmd_load HT17.out) _ Tryz.underlying28 rfl (by kernel_rfl) ?_)
    | ((with_reducible refine at_op ⟨_, .store 28 (.tmp 2) (.tmp 35), _, _, _, _⟩ ?_); refine wpList_store_blk rfl 28 (.tmp 2) (.tmp 35) rfl (w.heap.size + 1) 0 rfl (cmdL c (.slice (some ⟨bR, 0, none⟩) rl kR) (.slice (some ⟨bP, 0, none⟩) pl kP)) rfl (cmdL_onel _ _ _ rfl rfl) 28 zCmd HT217.out (show 0 + 14 ≤ 14 from Nat.le_refl 14) (by kernel_rfl) ?_; rw [putAll _ _ _ _ rfl]; intro w18 hT18 hg18 hs18; have HT18 := Lib.hid hT18; have HG18 := Lib.hid hg18; have HS18 := Lib.hid hs18; clear hT18 hg18 hs18)
    | fail)
  refine bodyPost_ret (results_cell_row rfl _ _ (w.heap.size + 1) 28 _ (0, 0) _ rfl HT18.out Tryz.underlying28 rfl (by kernel_rfl)) rfl ?_
  have hs15 := HSZ15.out
  have hbR := HBR.out
  have hbP := HBP.out
  have hB16 := below_gb HB15.out HG16.out HB15.out.size (Nat.le_refl _)
  have hB17 := below_gb hB16 HG17.out hB16.size (Nat.le_refl _)
  have hB18 := below_gb hB17 HG18.out hB17.size (by omega)
  refine ⟨bR, kR, bP, kP, ?_, hB18, by omega, by omega, by rw [HRL.out]; exact HKR.out.1, HKR.out.2, by rw [HPL.out]; exact HKP.out.1, HKP.out.2, ⟨cR, ((HR15.out.gb HG16.out (by omega)).gb HG17.out (by omega)).gb HG18.out (by omega), HH8.out⟩, ⟨cP, ((HP15.out.gb HG16.out (by omega)).gb HG17.out (by omega)).gb HG18.out (by omega), HH14.out⟩⟩
  rw [HRL.out, HPL.out]

set_option maxRecDepth 100000 in
set_option maxHeartbeats 8000000 in
theorem same_eq (c : Cmd) (A A' P P' : Option Addr) (a a' p p' : Nat) (w : World) (hr : BytesAt w w.heap.size A c.raw) (hr' : BytesAt w w.heap.size A' c.raw) (hp : IntsAt w w.heap.size P c.picks) (hp' : IntsAt w w.heap.size P' c.picks) (hl : c.raw.length ≤ 1048576) (hl' : c.picks.length ≤ 1048576) :
    Calls Tryz.prog 15 #[.agg (cmdC c (.slice A c.raw.length a) (.slice P c.picks.length p)), .agg (cmdC c (.slice A' c.raw.length a') (.slice P' c.picks.length p'))] w fun e w' => e = .returned (.bool true) ∧ Below w.heap.size w w' := by
  have hT1 := (Blk.new w 28 (cmdC c (.slice A c.raw.length a) (.slice P c.picks.length p))).alloc (.cells (cmdC c (.slice A' c.raw.length a') (.slice P' c.picks.length p')) 28)
  have hT2 := Blk.new (w.alloc (.cells (cmdC c (.slice A c.raw.length a) (.slice P c.picks.length p)) 28)) 28 (cmdC c (.slice A' c.raw.length a') (.slice P' c.picks.length p'))
  rw [World.size_alloc] at hT2
  have hb1 : Below w.heap.size w (w.alloc (.cells (cmdC c (.slice A c.raw.length a) (.slice P c.picks.length p)) 28)) := (Below.refl _ _).alloc (Nat.le_refl _) _
  have hb0 := hb1.alloc hb1.size (.cells (cmdC c (.slice A' c.raw.length a') (.slice P' c.picks.length p')) 28)
  have HR := Lib.hid (hr.up hb0)
  have HR' := Lib.hid (hr'.up hb0)
  have HP := Lib.hid (hp.up hb0)
  have HP' := Lib.hid (hp'.up hb0)
  clear hr hr' hp hp' hb1
  generalize hcs : cmdC c (.slice A c.raw.length a) (.slice P c.picks.length p) = cs at hT1 hT2 hb0 HR HR' HP HP' ⊢
  generalize hcs' : cmdC c (.slice A' c.raw.length a') (.slice P' c.picks.length p') = cs' at hT1 hT2 hb0 HR HR' HP HP' ⊢
  have HCS := Lib.hid hcs
  have HCS' := Lib.hid hcs'
  clear hcs hcs'
  go_enter Tryz.func15, Tryz.ntmps15
  go_upto_region 1 with fail
  generalize hw0 : (w.alloc _).alloc _ = w0 at hT1 hT2 hb0 HR HR' HP HP' ⊢
  have HB0 := Lib.hid hb0
  have HT1 : Hid (Blk w0 w.heap.size 28 (cmdC c (.slice A c.raw.length a) (.slice P c.picks.length p))) := Lib.hid (by rw [HCS.out]; exact hT1)
  have HT2 : Hid (Blk w0 (w.heap.size + 1) 28 (cmdC c (.slice A' c.raw.length a') (.slice P' c.picks.length p'))) := Lib.hid (by rw [HCS'.out]; exact hT2)
  clear hw0 hT1 hT2 hb0 HCS HCS'
  have q0 : w0.cell? ⟨w.heap.size, 0, none⟩ = some (.int .i64 c.verb) := HT1.out.cell 0
  have q1 : w0.cell? ⟨w.heap.size, 1, none⟩ = some (.int .i64 c.conn) := HT1.out.cell 1
  have q11 : w0.cell? ⟨w.heap.size, 11, none⟩ = some (.slice A c.raw.length a) := HT1.out.cell 11
  have q12 : w0.cell? ⟨w.heap.size, 12, none⟩ = some (.int .i64 c.n) := HT1.out.cell 12
  have q13 : w0.cell? ⟨w.heap.size, 13, none⟩ = some (.slice P c.picks.length p) := HT1.out.cell 13
  have t0 : w0.cell? ⟨w.heap.size + 1, 0, none⟩ = some (.int .i64 c.verb) := HT2.out.cell 0
  have t1 : w0.cell? ⟨w.heap.size + 1, 1, none⟩ = some (.int .i64 c.conn) := HT2.out.cell 1
  have t11 : w0.cell? ⟨w.heap.size + 1, 11, none⟩ = some (.slice A' c.raw.length a') := HT2.out.cell 11
  have t12 : w0.cell? ⟨w.heap.size + 1, 12, none⟩ = some (.int .i64 c.n) := HT2.out.cell 12
  have t13 : w0.cell? ⟨w.heap.size + 1, 13, none⟩ = some (.slice P' c.picks.length p') := HT2.out.cell 13
  have q2 : w0.cell? ⟨w.heap.size, 2, none⟩ = some (.int .u32 c.req.id) := HT1.out.cell 2
  have t2 : w0.cell? ⟨w.heap.size + 1, 2, none⟩ = some (.int .u32 c.req.id) := HT2.out.cell 2
  have q3 : w0.cell? ⟨w.heap.size, 3, none⟩ = some (.int .i64 c.req.op) := HT1.out.cell 3
  have t3 : w0.cell? ⟨w.heap.size + 1, 3, none⟩ = some (.int .i64 c.req.op) := HT2.out.cell 3
  have q4 : w0.cell? ⟨w.heap.size, 4, none⟩ = some (.string (S c.req.topic)) := HT1.out.cell 4
  have t4 : w0.cell? ⟨w.heap.size + 1, 4, none⟩ = some (.string (S c.req.topic)) := HT2.out.cell 4
  have q5 : w0.cell? ⟨w.heap.size, 5, none⟩ = some (.string (S c.req.key)) := HT1.out.cell 5
  have t5 : w0.cell? ⟨w.heap.size + 1, 5, none⟩ = some (.string (S c.req.key)) := HT2.out.cell 5
  have q6 : w0.cell? ⟨w.heap.size, 6, none⟩ = some (.string (S c.req.value)) := HT1.out.cell 6
  have t6 : w0.cell? ⟨w.heap.size + 1, 6, none⟩ = some (.string (S c.req.value)) := HT2.out.cell 6
  have q7 : w0.cell? ⟨w.heap.size, 7, none⟩ = some (.int .i64 c.req.off) := HT1.out.cell 7
  have t7 : w0.cell? ⟨w.heap.size + 1, 7, none⟩ = some (.int .i64 c.req.off) := HT2.out.cell 7
  have q8 : w0.cell? ⟨w.heap.size, 8, none⟩ = some (.int .i64 c.req.num) := HT1.out.cell 8
  have t8 : w0.cell? ⟨w.heap.size + 1, 8, none⟩ = some (.int .i64 c.req.num) := HT2.out.cell 8
  have q9 : w0.cell? ⟨w.heap.size, 9, none⟩ = some (.int .i64 c.req.pid) := HT1.out.cell 9
  have t9 : w0.cell? ⟨w.heap.size + 1, 9, none⟩ = some (.int .i64 c.req.pid) := HT2.out.cell 9
  have q10 : w0.cell? ⟨w.heap.size, 10, none⟩ = some (.int .i64 c.req.seq) := HT1.out.cell 10
  have t10 : w0.cell? ⟨w.heap.size + 1, 10, none⟩ = some (.int .i64 c.req.seq) := HT2.out.cell 10
  go_upto_region 3 with fail
  clear q0 t0 q1 t1 q2 t2 q3 t3 q4 t4 q5 t5 q6 t6 q7 t7 q8 t8 q9 t9 q10 t10 q11 t11 q12 t12 q13 t13
  go_wp2_with fail
  go_loopw [5] (fun i wr => ∃ j : Nat, j ≤ c.raw.length ∧ i = .int .i64 (j : Int) ∧ Hid (Below w0.heap.size w0 wr)) (fun i _ => c.raw.length - (intOf i).toNat)
  case atStart => exact ⟨0, Nat.zero_le _, rfl, Below.refl _ _⟩
  case round =>
    obtain ⟨j, hj, rfl, HBr⟩ := hrel
    have u0 : wr.cell? ⟨w.heap.size, 11, none⟩ = some (.slice A c.raw.length a) := (HT1.out.below HBr.out HT1.out.lt).cell 11
    have u1 : wr.cell? ⟨w.heap.size + 1, 11, none⟩ = some (.slice A' c.raw.length a') := (HT2.out.below HBr.out HT2.out.lt).cell 11
    by_cases hlt : j < c.raw.length
    · have hne : c.raw ≠ [] := by intro e; rw [e] at hlt; simp at hlt
      obtain ⟨b, off, rfl, hb, hcl⟩ := HR.out hne
      obtain ⟨b', off', rfl, hb', hcl'⟩ := HR'.out hne
      obtain ⟨x, hx⟩ : ∃ x, c.raw[j] = x := ⟨_, rfl⟩
      have hxj : c.raw[j]? = some x := by rw [← hx]; exact List.getElem?_eq_getElem hlt
      have k0 := cell_regrown u0
      have k1 := cell_regrown u1
      have k2 := cell_regrown ((HBr.out.cell (p := ⟨b, off + j, none⟩) hb).trans (hcl j x hxj))
      have k3 := cell_regrown ((HBr.out.cell (p := ⟨b', off' + j, none⟩) hb').trans (hcl' j x hxj))
      clear hcl hcl' hb hb' hx hxj hne
      go_upto_region 6 with fail
      refine wp_region_quiet_below (by kernel_rfl) (by kernel_rfl) ?_
      repeat (first | go_big_quiet_skip | (go_big_quiet_want; go_big_quiet_op; go_big_quiet_on))
      refine wpQuiet_nil ?_
      intro _ hw'
      obtain ⟨⟨dq, osq⟩, hw''⟩ := hw'
      subst hw''
      have HB4 : Hid (Below w0.heap.size w0 (Sort.grow (redrawn wr dq) osq)) := HBr.out.trans ((below_regrown wr dq osq).mono HBr.out.size)
      clear k0 k1 k2 k3 u0 u1
      go_wp2_with fail
      go_roundw
      case rel => exact ⟨j + 1, by omega, by go_num, HB4⟩
      case measure => simp [intOf]; omega
    · obtain rfl : j = c.raw.length := by omega
      clear u1
      go_wp2_with fail
      go_loopw [6] (fun i wr => ∃ j : Nat, j ≤ c.picks.length ∧ i = .int .i64 (j : Int) ∧ Hid (Below w0.heap.size w0 wr)) (fun i _ => c.picks.length - (intOf i).toNat)
      case atStart => exact ⟨0, Nat.zero_le _, rfl, HBr⟩
      case round =>
        obtain ⟨j, hj, rfl, HBr⟩ := hrel
        have u0 : wr.cell? ⟨w.heap.size, 13, none⟩ = some (.slice P c.picks.length p) := (HT1.out.below HBr.out HT1.out.lt).cell 13
        have u1 : wr.cell? ⟨w.heap.size + 1, 13, none⟩ = some (.slice P' c.picks.length p') := (HT2.out.below HBr.out HT2.out.lt).cell 13
        by_cases hlt : j < c.picks.length
        · have hne : c.picks ≠ [] := by intro e; rw [e] at hlt; simp at hlt
          obtain ⟨b, off, rfl, hb, hcl⟩ := HP.out hne
          obtain ⟨b', off', rfl, hb', hcl'⟩ := HP'.out hne
          obtain ⟨x, hx⟩ : ∃ x, c.picks[j] = x := ⟨_, rfl⟩
          have hxj : c.picks[j]? = some x := by rw [← hx]; exact List.getElem?_eq_getElem hlt
          have k0 := cell_regrown u0
          have k1 := cell_regrown u1
          have k2 := cell_regrown ((HBr.out.cell (p := ⟨b, off + j, none⟩) hb).trans (hcl j x hxj))
          have k3 := cell_regrown ((HBr.out.cell (p := ⟨b', off' + j, none⟩) hb').trans (hcl' j x hxj))
          clear hcl hcl' hb hb' hx hxj hne
          go_upto_region 11 with fail
          refine wp_region_quiet_below (by kernel_rfl) (by kernel_rfl) ?_
          repeat (first | go_big_quiet_skip | (go_big_quiet_want; go_big_quiet_op; go_big_quiet_on))
          refine wpQuiet_nil ?_
          intro _ hw'
          obtain ⟨⟨dq, osq⟩, hw''⟩ := hw'
          subst hw''
          have HB4 : Hid (Below w0.heap.size w0 (Sort.grow (redrawn wr dq) osq)) := HBr.out.trans ((below_regrown wr dq osq).mono HBr.out.size)
          clear k0 k1 k2 k3 u0 u1
          go_wp2_with fail
          go_roundw
          case rel => exact ⟨j + 1, by omega, by go_num, HB4⟩
          case measure => simp [intOf]; omega
        · obtain rfl : j = c.picks.length := by omega
          clear u1
          have HBF : Hid (Below w.heap.size w wr) := HB0.out.trans (HBr.out.mono HB0.out.size)
          go_wp2_with fail
          go_ret
          exact ⟨rfl, HBF.out⟩
end Go.Proofs.YtepalbldleegiaaGreatDoor.sh
