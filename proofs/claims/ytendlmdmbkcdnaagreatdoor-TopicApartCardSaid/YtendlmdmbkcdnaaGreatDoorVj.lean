/-
  Texts of the proof joined by a program: Ost Dka Dkb Sgf Sgg Sgh.
-/
import Derived.Test.YtendlmdmbkcdnaaGreatDoorVi
import Derived.Test.YtendlmdmbkcdnaaGreatDoorVg
import Derived.Deep.DeepCutAuto
set_option linter.unusedSimpArgs false
set_option linter.unusedVariables false
namespace Go.Proofs.YtendlmdmbkcdnaaGreatDoor.oc
open Go.RowKit Go.Maps Go.WideMaps
open Go.Lib (hid)
set_option maxRecDepth 100000
set_option maxHeartbeats 4000000 in
theorem replace_any (w : World) (ow : Nat -> Tag) (d : Nat) (S : DiskS) (h : DiskAt w ow d S) (a b : ByteArray) (hab : a ++ ⟨#[46, 116, 109, 112]⟩ = b) (haz : a.size <= 1000) (gz : Int) (l : List UInt8) (A : Option Addr) (c : Nat) (H : RepH ow w d S a b l gz A c)
  (hsz : ∀ W, DiskAt W ow d S -> Calls Tryz.prog 123 #[.pointer (some ⟨d, 0, none⟩), .string a] W fun e w' => ∃ n c, e = .returned (.tuple #[.int .i64 n, .int .i64 c]) /\ (c = 0 \/ c = 31) /\ Below W.heap.size W w') :
  Calls Tryz.prog 205 #[.pointer (some ⟨d, 0, none⟩), .string a, .slice A l.length c] w (RepOut w ow d S a b l gz) := by
 have hz : ¬ ((9223372036854775807 : Int) < (a.size : Int) + 4) := by omega
 have hz2 : ¬ (9223372036854775807 < a.size + 4) := by omega
 have hnew : ∀ i, w.heap.size <= i -> ow i = .other := by
  obtain ⟨ms, mf, vc, dvals, h⟩ := h
  exact h.new
 obtain ⟨W, hW, hbW, hWz, o0, o1, o2, o3, o4⟩ := caps5 w ow hnew 23 9 74 24 9 (.pointer (some ⟨d, 0, none⟩)) (.string a) (.slice A l.length c) (.int .i64 0) (.string b)
 have HH := hid (h.below hbW)
 have HO := hid (And.intro o0 (And.intro o1 (And.intro o2 (And.intro o3 o4))))
 have HBW := hid hbW
 have HW := hid hWz
 have HHH := hid H
 have HSZ := hid hsz
 have HNEW := hid hnew
 generalize hwz : w.heap.size = z at *
 clear hbW hWz o0 o1 o2 o3 o4 h hsz H hnew
 go_enter_defers Tryz.func205, Tryz.ntmps205
 go_wp2_with fail
 rw [<- hW]
 clear hW hz hz2
 have c4 : W.cell? ⟨z + 1 + 1 + 1 + 1, 0, none⟩ = some (.string b) := HO.out.2.2.2.2.cell
 have c0 : W.cell? ⟨z, 0, none⟩ = some (.pointer (some ⟨d, 0, none⟩)) := HO.out.1.cell
 refine (HSZ.out W HH.out).mono ?_
 rintro e W1 ⟨n0, e0, rfl, he0, hb1⟩
 have HB1 := hid hb1
 have d4 : W1.cell? ⟨z + 1 + 1 + 1 + 1, 0, none⟩ = some (.string b) := (HO.out.2.2.2.2.below hb1).cell
 have d0 : W1.cell? ⟨z, 0, none⟩ = some (.pointer (some ⟨d, 0, none⟩)) := (HO.out.1.below hb1).cell
 clear c4 c0 hb1
 rcases he0 with rfl | rfl
 all_goals
  go_wp2_with fail
  refine (size_no W1 ow d S (HH.out.below HB1.out) HHH.out.dead b HHH.out.gb HHH.out.nb).mono ?_
  rintro e W2 ⟨rfl, hb2⟩
  have HB2 : Hid (Below W.heap.size W W2) := hid (HB1.out.trans (hb2.mono HB1.out.size))
  clear d4 d0 hb2
  have e0 : ∀ o, (W2.alloc o).cell? ⟨z, 0, none⟩ = some (.pointer (some ⟨d, 0, none⟩)) := fun o => ((HO.out.1.below HB2.out).alloc o).cell
  go_wp2_with fail
  have HREP : Hid (Rep ow w ((W2.alloc (.cells #[.bool false] 4)).alloc (.cells #[.func (.func 245) #[] #[.pointer (some ⟨z, 0, none⟩), .pointer (some ⟨z + 1 + 1 + 1 + 1, 0, none⟩)],
   .func (.func 246) #[] #[.pointer (some ⟨z, 0, none⟩), .pointer (some ⟨z + 1 + 1 + 1 + 1, 0, none⟩), .pointer (some ⟨z + 1 + 1, 0, none⟩)],
   .func (.func 247) #[] #[.pointer (some ⟨z, 0, none⟩), .pointer (some ⟨z + 1 + 1 + 1 + 1, 0, none⟩)],
   .func (.func 248) #[] #[.pointer (some ⟨z, 0, none⟩), .pointer (some ⟨z + 1 + 1 + 1 + 1, 0, none⟩), .pointer (some ⟨z + 1, 0, none⟩)],
   .func (.func 80) #[.pointer (some ⟨d, 0, none⟩)] #[]] 89)) d z W2.heap.size S a b l gz A l.length c 0 false) := hid (by
   have hle : z <= W2.heap.size := by have := HB2.out.size; have := HW.out; omega
   have hb4 : Below W2.heap.size W2 ((W2.alloc (.cells #[.bool false] 4)).alloc (.cells #[.func (.func 245) #[] #[.pointer (some ⟨z, 0, none⟩), .pointer (some ⟨z + 1 + 1 + 1 + 1, 0, none⟩)],
   .func (.func 246) #[] #[.pointer (some ⟨z, 0, none⟩), .pointer (some ⟨z + 1 + 1 + 1 + 1, 0, none⟩), .pointer (some ⟨z + 1 + 1, 0, none⟩)],
   .func (.func 247) #[] #[.pointer (some ⟨z, 0, none⟩), .pointer (some ⟨z + 1 + 1 + 1 + 1, 0, none⟩)],
   .func (.func 248) #[] #[.pointer (some ⟨z, 0, none⟩), .pointer (some ⟨z + 1 + 1 + 1 + 1, 0, none⟩), .pointer (some ⟨z + 1, 0, none⟩)],
   .func (.func 80) #[.pointer (some ⟨d, 0, none⟩)] #[]] 89)) := ((Below.refl _ W2).alloc (Nat.le_refl _) _).alloc (by rw [World.size_alloc]; omega) _
   refine ⟨w.heap.size, ow, Nat.le_refl _, (HH.out.below HB2.out).below hb4, ?_, (HO.out.1.below HB2.out).below hb4, (HO.out.2.1.below HB2.out).below hb4, (HO.out.2.2.1.below HB2.out).below hb4, (HO.out.2.2.2.1.below HB2.out).below hb4, (HO.out.2.2.2.2.below HB2.out).below hb4, (Own1.new W2 _ _ rfl (HNEW.out _ hle)).alloc _, ⟨?_, HNEW.out _ (by omega)⟩⟩
   ·refine Fr.of_below ?_ (by rw [hwz]; exact HNEW.out)
    rw [hwz]
    exact HBW.out.trans ((HB2.out.mono (by rw [HW.out]; omega)).trans (hb4.mono hle))
   ·have := Blk.new (W2.alloc (.cells #[.bool false] 4)) 89 #[.func (.func 245) #[] #[.pointer (some ⟨z, 0, none⟩), .pointer (some ⟨z + 1 + 1 + 1 + 1, 0, none⟩)],
   .func (.func 246) #[] #[.pointer (some ⟨z, 0, none⟩), .pointer (some ⟨z + 1 + 1 + 1 + 1, 0, none⟩), .pointer (some ⟨z + 1 + 1, 0, none⟩)],
   .func (.func 247) #[] #[.pointer (some ⟨z, 0, none⟩), .pointer (some ⟨z + 1 + 1 + 1 + 1, 0, none⟩)],
   .func (.func 248) #[] #[.pointer (some ⟨z, 0, none⟩), .pointer (some ⟨z + 1 + 1 + 1 + 1, 0, none⟩), .pointer (some ⟨z + 1, 0, none⟩)],
   .func (.func 80) #[.pointer (some ⟨d, 0, none⟩)] #[]]
    rwa [World.size_alloc] at this)
  have hzm : w.heap.size <= W2.heap.size := by have := HB2.out.size; have := HW.out; omega
  clear e0 HO HH HBW HW HNEW HB1 HB2
  generalize (W2.alloc (.cells #[.bool false] 4)).alloc _ = W3 at HREP ⊢
  generalize W2.heap.size = m at *
  go_loopw [63] (fun i wr => ∃ (k : Nat) (fl : Bool), k <= 5 /\ i = .int .i64 (k : Int) /\ (0 < k -> fl = true) /\ Hid (Rep ow w wr d z m S a b l gz A l.length c k fl)) (fun i _ => 5 - (intOf i).toNat)
  case atStart => exact ⟨0, false, Nat.zero_le _, rfl, (fun h => absurd h (Nat.lt_irrefl _)), HREP⟩
  case round =>
   obtain ⟨k, fl, hk, rfl, hfl, HR⟩ := hrel
   clear HREP HSZ
   obtain ⟨f0, owk, _, _, _, o0, o1, o2, o3, o4, om, ⟨hr, _⟩⟩ := HR.out.go
   have c0 := o0.cell
   have c1 := o1.cell
   have c2 := o2.cell
   have c3 := o3.cell
   have f3 := o3.1.frozen 0
   have c4 := o4.cell
   have cm := om.cell
   have r0 := (hr.cell 0).trans rfl
   have r1 := (hr.cell 1).trans rfl
   have r2 := (hr.cell 2).trans rfl
   have r3 := (hr.cell 3).trans rfl
   have r4 := (hr.cell 4).trans rfl
   clear hr o0 o1 o2 o3 o4 om
   rcases k with _ | _ | _ | _ | _ | _ | k
   ·have HS := hid (clo2 _ z (z + 1 + 1 + 1 + 1) d b _ c0 c4 (rep0 HHH.out HR.out))
    clear c0 c1 c2 c3 c4 cm f3
    go_wp2_with fail
    refine HS.out.mono ?_
    rintro e w1 ⟨rfl, hr1⟩
    have HR1 := hid hr1
    obtain ⟨_, owk1, _, _, _, _, _, _, _, _, om1, _⟩ := hr1.go
    have em := om1.cell
    have fm := om1.1.frozen 0
    clear om1 hr1 HS r0 r1 r2 r3 r4
    go_wp2_with fail
    go_roundw
    case rel => exact ⟨1, true, by omega, by go_num, fun _ => rfl, hid (HR1.out.flag hzm)⟩
    case measure => simp [intOf]
   ·have HS := hid (clo3 _ z (z + 1 + 1 + 1 + 1) (z + 1 + 1) d l.length c A b _ c0 c4 c2 (rep1 HHH.out HR.out))
    clear c0 c1 c2 c3 c4 cm f3
    go_wp2_with fail
    refine HS.out.mono ?_
    rintro e w1 ⟨rfl, hr1⟩
    have HR1 := hid hr1
    obtain ⟨_, owk1, _, _, _, _, _, _, _, _, om1, _⟩ := hr1.go
    have em := om1.cell
    have fm := om1.1.frozen 0
    clear om1 hr1 HS r0 r1 r2 r3 r4
    go_wp2_with fail
    go_roundw
    case rel => exact ⟨2, true, by omega, by go_num, fun _ => rfl, hid (HR1.out.flag hzm)⟩
    case measure => simp [intOf]
   ·have HS := hid (clo4 _ z (z + 1 + 1 + 1 + 1) d b _ c0 c4 (rep2 HHH.out HR.out))
    clear c0 c1 c2 c3 c4 cm f3
    go_wp2_with fail
    refine HS.out.mono ?_
    rintro e w1 ⟨rfl, hr1⟩
    have HR1 := hid hr1
    obtain ⟨_, owk1, _, _, _, _, _, _, _, _, om1, _⟩ := hr1.go
    have em := om1.cell
    have fm := om1.1.frozen 0
    clear om1 hr1 HS r0 r1 r2 r3 r4
    go_wp2_with fail
    go_roundw
    case rel => exact ⟨3, true, by omega, by go_num, fun _ => rfl, hid (HR1.out.flag hzm)⟩
    case measure => simp [intOf]
   ·have HS := hid (clo5 _ z (z + 1 + 1 + 1 + 1) (z + 1) d a b _ c0 c4 c1 (rep3 HHH.out HR.out))
    clear c0 c1 c2 c3 c4 cm f3
    go_wp2_with fail
    refine HS.out.mono ?_
    rintro e w1 ⟨rfl, hr1⟩
    have HR1 := hid hr1
    obtain ⟨_, owk1, _, _, _, _, _, _, _, _, om1, _⟩ := hr1.go
    have em := om1.cell
    have fm := om1.1.frozen 0
    clear om1 hr1 HS r0 r1 r2 r3 r4
    go_wp2_with fail
    go_roundw
    case rel => exact ⟨4, true, by omega, by go_num, fun _ => rfl, hid (HR1.out.flag hzm)⟩
    case measure => simp [intOf]
   ·have HS := hid (rep4 HHH.out HR.out)
    clear c0 c1 c2 c3 c4 cm f3
    go_wp2_with fail
    refine HS.out.mono ?_
    rintro e w1 ⟨rfl, hr1⟩
    have HR1 := hid hr1
    obtain ⟨_, owk1, _, _, _, _, _, _, _, _, om1, _⟩ := hr1.go
    have em := om1.cell
    have fm := om1.1.frozen 0
    clear om1 hr1 HS r0 r1 r2 r3 r4
    go_wp2_with fail
    go_roundw
    case rel => exact ⟨5, true, by omega, by go_num, fun _ => rfl, hid (HR1.out.flag hzm)⟩
    case measure => simp [intOf]
   ·have HF := hfl (by omega)
    subst HF
    have HX := hid (HR.out.done (by omega))
    clear c0 c1 c2 c4 cm r0 r1 r2 r3 r4
    go_wp2_with fail
    obtain ⟨hx, he, hm⟩ := HX.out
    refine leaves_cons (f := 244) (args := #[.pointer (some ⟨m, 0, none⟩), .pointer (some ⟨z + 1 + 1 + 1, 0, none⟩), .pointer (some ⟨z, 0, none⟩), .pointer (some ⟨z + 1 + 1 + 1 + 1, 0, none⟩)]) (by simp) (by simp [go_sem]) ?_
    refine (clo1 _ m (z + 1 + 1 + 1) z (z + 1 + 1 + 1 + 1) hm ((he.cell 0).trans rfl)).mono ?_
    rintro e u' wz ⟨rfl, rfl, rfl⟩
    exact ⟨_, results_rep _ _ (z + 1 + 1 + 1) 0 rfl he, hx⟩
   ·omega
end Go.Proofs.YtendlmdmbkcdnaaGreatDoor.oc
namespace Go.Proofs.YtendlmdmbkcdnaaGreatDoor.dk
open Go.RowKit Go.Maps Go.WideMaps oc gh
set_option maxRecDepth 100000
structure Fil where
 name : ByteArray
 blk : Nat
 st : FileS
def sumF (fs : List Fil) : Nat := (fs.map fun x => x.st.seen.length).sum
structure FilOk (F : FileS) : Prop where
 seen : F.seen = appAll F.chs F.safe
 apps : ∀ c ∈ F.chs, ∃ b, c = .app b /\ 0 < b.length
theorem appAll_len : ∀ (chs : List FChg) (l : List UInt8), (∀ c ∈ chs, ∃ b, c = .app b /\ 0 < b.length) -> l.length + chs.length <= (appAll chs l).length
 | [], l, _ => by simp [appAll]
 | c :: chs, l, h => by
  obtain ⟨b, rfl, hb⟩ := h c List.mem_cons_self
  have := appAll_len chs (l ++ b) (fun c hc => h c (List.mem_cons_of_mem _ hc))
  simp only [appAll, List.foldl_cons, appCh, List.length_cons, List.length_append] at this ⊢
  omega
theorem FilOk.len {F : FileS} (h : FilOk F) : F.chs.length <= F.seen.length := by
 have := appAll_len F.chs F.safe h.apps
 rw [<- h.seen] at this
 omega
theorem FilOk.take {F : FileS} (h : FilOk F) (k : Nat) : (appAll (F.chs.take k) F.safe).length <= F.seen.length := by
 have h1 := appAll_len (F.chs.drop k) (appAll (F.chs.take k) F.safe) (fun c hc => h.apps c (List.mem_of_mem_drop hc))
 have h2 : appAll (F.chs.drop k) (appAll (F.chs.take k) F.safe) = F.seen := by
  rw [h.seen]
  conv => rhs; rw [<- List.take_append_drop k F.chs]
  simp only [appAll, List.foldl_append]
 rw [h2] at h1
 omega
theorem FilOk.new : FilOk ⟨[], [], []⟩ := ⟨rfl, fun c hc => by cases hc⟩
def fApp (F : FileS) (b : List UInt8) : FileS := { F with seen := F.seen ++ b, chs := F.chs ++ [.app b] }
def fSync (F : FileS) : FileS := { F with safe := appAll F.chs F.safe, chs := [] }
theorem FilOk.app {F : FileS} (h : FilOk F) {b : List UInt8} (hb : 0 < b.length) : FilOk (fApp F b) := by
 refine ⟨?_, fun c hc => ?_⟩
 ·simp only [fApp]
  rw [appAll_snoc, <- h.seen]
  rfl
 ·simp only [fApp, List.mem_append, List.mem_singleton] at hc
  rcases hc with hc | rfl
  ·exact h.apps c hc
  ·exact ⟨b, rfl, hb⟩
theorem FilOk.sync {F : FileS} (h : FilOk F) : FilOk (fSync F) := ⟨by rw [fSync]; exact h.seen, fun c hc => by cases hc⟩
theorem fSync_seen {F : FileS} : (fSync F).seen = F.seen := rfl
structure DkOk (S : DiskS) (q : Int) (fs : List Fil) (no L : Nat) : Prop where
 dead : S.dead = false
 fuse : S.fuse = -1
 quota : S.quota = q
 q0 : q <= 1073741824
 ops0 : 0 <= S.ops
 ops : S.ops <= no
 lim : S.lim + S.dchs.length <= L
 inv : DInv S
 tidy : Tidy S.dir
 ent : ∀ x ∈ fs, EntF S.dir x.name x.blk /\ S.file x.blk = some x.st /\ FilOk x.st /\ GoodN x.name
 no_ : ∀ s, (∀ x ∈ fs, x.name ≠ s) -> NoEnt S.dir s
 names : (fs.map (·.name)).Nodup
 blks : (fs.map (·.blk)).Nodup
 used : S.used = (sumF fs : Nat)
 usedq : S.used <= q
 size : Maps.size S.dir = fs.length
theorem sumF_perm {fs fs' : List Fil} (h : fs.Perm fs') : sumF fs = sumF fs' := (h.map _).sum_nat
theorem DkOk.perm {S : DiskS} {q : Int} {fs fs' : List Fil} {no L : Nat} (h : DkOk S q fs no L) (hp : fs.Perm fs') : DkOk S q fs' no L :=
 { h with
  ent := fun x hx => h.ent x (hp.mem_iff.2 hx)
  no_ := fun s hs => h.no_ s fun x hx => hs x (hp.mem_iff.1 hx)
  names := (hp.map _).nodup_iff.1 h.names
  blks := (hp.map _).nodup_iff.1 h.blks
  used := by rw [<- sumF_perm hp]; exact h.used
  size := by rw [<- hp.length_eq]; exact h.size }
theorem DkOk.more {S : DiskS} {q : Int} {fs : List Fil} {no no' L L' : Nat} (h : DkOk S q fs no L) (h1 : no <= no') (h2 : L <= L') : DkOk S q fs no' L' :=
 { h with ops := by have := h.ops; omega, lim := Nat.le_trans h.lim h2 }
section
variable {S : DiskS} {q : Int} {x : Fil} {l : List Fil} {no L : Nat} {s : ByteArray} {f : Nat}
theorem upd_same (fl : Nat -> Option FileS) (f : Nat) (F : FileS) : updF fl f F f = some F := by simp [updF]
theorem upd_other (fl : Nat -> Option FileS) {f g : Nat} (F : FileS) (h : g ≠ f) : updF fl f F g = fl g := by simp [updF, h]
theorem DkOk.head (h : DkOk S q (x :: l) no L) : EntF S.dir x.name x.blk /\ S.file x.blk = some x.st /\ FilOk x.st /\ GoodN x.name := h.ent x List.mem_cons_self
theorem DkOk.ne (h : DkOk S q (x :: l) no L) : ∀ y ∈ l, y.name ≠ x.name /\ y.blk ≠ x.blk := fun y hy => by
 have h1 := h.names
 have h2 := h.blks
 simp only [List.map_cons, List.nodup_cons, List.mem_map, not_exists, not_and] at h1 h2
 exact ⟨h1.1 y hy, h2.1 y hy⟩
theorem DkOk.turn (h : DkOk S q (x :: l) no L) (F : FileS) (hF : FilOk F) (u : Int) (hue : u = S.used + F.seen.length - x.st.seen.length) (hu : u <= q) :
  DkOk { S with used := u, ops := S.ops + 1, file := updF S.file x.blk F } q (⟨x.name, x.blk, F⟩ :: l) (no + 1) L where
 dead := h.dead
 fuse := h.fuse
 quota := h.quota
 q0 := h.q0
 ops0 := by show 0 <= S.ops + 1; have := h.ops0; omega
 ops := by show S.ops + 1 <= _; have := h.ops; omega
 lim := h.lim
 inv := h.inv.same rfl rfl rfl
 tidy := h.tidy
 ent := fun y hy => by
  rcases List.mem_cons.1 hy with rfl | hy
  ·exact ⟨h.head.1, upd_same _ _ _, hF, h.head.2.2.2⟩
  ·have h1 := h.ent y (List.mem_cons_of_mem _ hy)
   exact ⟨h1.1, (upd_other _ _ (h.ne y hy).2).trans h1.2.1, h1.2.2⟩
 no_ := fun s hs => h.no_ s fun y hy => by
  rcases List.mem_cons.1 hy with rfl | hy
  ·exact hs ⟨y.name, y.blk, F⟩ List.mem_cons_self
  ·exact hs y (List.mem_cons_of_mem _ hy)
 names := h.names
 blks := h.blks
 used := by
  have := h.used
  show u = _
  simp only [sumF, List.map_cons, List.sum_cons] at this ⊢
  push_cast at this ⊢
  omega
 usedq := hu
 size := h.size
theorem DkOk.add (h : DkOk S q l no L) (hs : ∀ y ∈ l, y.name ≠ s) (hf : ∀ y ∈ l, y.blk ≠ f) (hg : GoodN s) (hD : IsMap S.dir) :
  DkOk { S with dir := doD S.dir (.made s f), dchs := S.dchs ++ [.made s f], lim := S.lim + 1, ops := S.ops + 1, file := updF S.file f ⟨[], [], []⟩ } q (⟨s, f, ⟨[], [], []⟩⟩ :: l) (no + 1) (L + 2) where
 dead := h.dead
 fuse := h.fuse
 quota := h.quota
 q0 := h.q0
 ops0 := by show 0 <= S.ops + 1; have := h.ops0; omega
 ops := by show S.ops + 1 <= _; have := h.ops; omega
 lim := by show S.lim + 1 + (S.dchs ++ [_]).length <= _; have := h.lim; simp; omega
 inv := h.inv.add (ch := .made s f) trivial rfl rfl rfl
 tidy := h.tidy.put (key_lit s) _
 ent := fun y hy => by
  rcases List.mem_cons.1 hy with rfl | hy
  ·exact ⟨ent_made hD s f, upd_same _ _ _, FilOk.new, hg⟩
  ·have h1 := h.ent y hy
   exact ⟨ent_made_other h1.1 (hs y hy), (upd_other _ _ (hf y hy)).trans h1.2.1, h1.2.2⟩
 no_ := fun s' hs' => noent_made_other (h.no_ s' fun y hy => hs' y (List.mem_cons_of_mem _ hy)) (fun e => hs' _ List.mem_cons_self e.symm)
 names := by
  simp only [List.map_cons, List.nodup_cons, List.mem_map, not_exists, not_and]
  exact ⟨fun y hy => hs y hy, h.names⟩
 blks := by
  simp only [List.map_cons, List.nodup_cons, List.mem_map, not_exists, not_and]
  exact ⟨fun y hy => hf y hy, h.blks⟩
 used := by
  have := h.used
  simp only [sumF, List.map_cons, List.sum_cons] at this ⊢
  simpa using this
 usedq := h.usedq
 size := by
  show Maps.size (S.dir.put (key s) (fv f)) = _
  rw [size_put h.tidy, (h.no_ s hs).2]
  simp [h.size]
theorem noent_rem : NoEnt (doD S.dir (.rem s)) s := ⟨atKey_del_same _, has_del_same⟩
theorem ent_rem_other {D : DataW Unit} {t : ByteArray} {g : Nat} (h : EntF D t g) (h1 : t ≠ s) : EntF (doD D (.rem s)) t g := ⟨(atKey_del_other (key_ne h1) _).trans h.1, (has_del_other (key_ne h1)).trans h.2⟩
theorem noent_rem_other {D : DataW Unit} {t : ByteArray} (h : NoEnt D t) (h1 : t ≠ s) : NoEnt (doD D (.rem s)) t := ⟨(atKey_del_other (key_ne h1) _).trans h.1, (has_del_other (key_ne h1)).trans h.2⟩
theorem DkOk.rem (h : DkOk S q (x :: l) no L) :
  DkOk { S with dir := doD S.dir (.rem x.name), dchs := S.dchs ++ [.rem x.name], lim := S.lim + 1, used := S.used - x.st.seen.length, ops := S.ops + 1 } q l (no + 1) (L + 2) where
 dead := h.dead
 fuse := h.fuse
 quota := h.quota
 q0 := h.q0
 ops0 := by show 0 <= S.ops + 1; have := h.ops0; omega
 ops := by show S.ops + 1 <= _; have := h.ops; omega
 lim := by show S.lim + 1 + (S.dchs ++ [_]).length <= _; have := h.lim; simp; omega
 inv := h.inv.add (ch := .rem x.name) trivial rfl rfl rfl
 tidy := h.tidy.del _
 ent := fun y hy => by
  have h1 := h.ent y (List.mem_cons_of_mem _ hy)
  exact ⟨ent_rem_other h1.1 (h.ne y hy).1, h1.2⟩
 no_ := fun s' hs' => by
  by_cases e : s' = x.name
  ·subst e
   exact noent_rem
  ·refine noent_rem_other (h.no_ s' fun y hy => ?_) e
   rcases List.mem_cons.1 hy with rfl | hy
   ·exact fun e' => e e'.symm
   ·exact hs' y hy
 names := (List.nodup_cons.1 h.names).2
 blks := (List.nodup_cons.1 h.blks).2
 used := by
  have := h.used
  simp only [sumF, List.map_cons, List.sum_cons] at this ⊢
  push_cast at this
  omega
 usedq := by
  show S.used - (x.st.seen.length : Int) <= q
  have := h.usedq
  omega
 size := by
  show Maps.size (S.dir.del (key x.name)) = _
  have h1 := size_del (k := key x.name) h.tidy
  rw [h.head.1.2] at h1
  have h2 := h.size
  simp only [List.length_cons, if_true] at h1 h2
  omega
theorem DkOk.syncdir (h : DkOk S q l no L) : DkOk { S with safe := doAll S.dchs S.safe, dchs := [], lim := S.lim + S.dchs.length, ops := S.ops + 1 } q l (no + 1) L where
 dead := h.dead
 fuse := h.fuse
 quota := h.quota
 q0 := h.q0
 ops0 := by show 0 <= S.ops + 1; have := h.ops0; omega
 ops := by show S.ops + 1 <= _; have := h.ops; omega
 lim := by show S.lim + S.dchs.length + 0 <= L; have := h.lim; omega
 inv := h.inv.sync rfl rfl rfl
 tidy := h.tidy
 ent := h.ent
 no_ := h.no_
 names := h.names
 blks := h.blks
 used := h.used
 usedq := h.usedq
 size := h.size
theorem DkOk.ren (h : DkOk S q (x :: l) no L) (hs : ∀ y ∈ l, y.name ≠ s) (hx : s ≠ x.name) (hg : GoodN s) (hD : IsMap S.dir) :
  DkOk { S with dir := doD S.dir (.ren x.name s), dchs := S.dchs ++ [.ren x.name s], lim := S.lim + 1, ops := S.ops + 1 } q (⟨s, x.blk, x.st⟩ :: l) (no + 1) (L + 2) where
 dead := h.dead
 fuse := h.fuse
 quota := h.quota
 q0 := h.q0
 ops0 := by show 0 <= S.ops + 1; have := h.ops0; omega
 ops := by show S.ops + 1 <= _; have := h.ops; omega
 lim := by show S.lim + 1 + (S.dchs ++ [_]).length <= _; have := h.lim; simp; omega
 inv := h.inv.add (ch := .ren x.name s) ⟨x.blk, h.head.1⟩ rfl rfl rfl
 tidy := (h.tidy.put (key_lit s) _).del _
 ent := fun y hy => by
  rcases List.mem_cons.1 hy with rfl | hy
  ·exact ⟨ent_ren hD h.head.1 hx, h.head.2.1, h.head.2.2.1, hg⟩
  ·have h1 := h.ent y (List.mem_cons_of_mem _ hy)
   exact ⟨ent_ren_other h1.1 (h.ne y hy).1 (hs y hy), h1.2⟩
 no_ := fun s' hs' => by
  by_cases e : s' = x.name
  ·subst e
   exact noent_ren
  ·refine noent_ren_other (h.no_ s' fun y hy => ?_) e (fun e' => hs' _ List.mem_cons_self e'.symm)
   rcases List.mem_cons.1 hy with rfl | hy
   ·exact fun e' => e e'.symm
   ·exact hs' y (List.mem_cons_of_mem _ hy)
 names := by
  have := (List.nodup_cons.1 h.names).2
  simp only [List.map_cons, List.nodup_cons, List.mem_map, not_exists, not_and]
  exact ⟨fun y hy => hs y hy, this⟩
 blks := h.blks
 used := h.used
 usedq := h.usedq
 size := by
  show Maps.size ((S.dir.put (key s) (S.dir.atKey (key x.name) .nil)).del (key x.name)) = _
  have h1 := size_del (k := key x.name) (h.tidy.put (key_lit s) (S.dir.atKey (key x.name) .nil))
  have hn := h.no_ s (fun y hy => by
   rcases List.mem_cons.1 hy with rfl | hy
   ·exact fun e => hx e.symm
   ·exact hs y hy)
  rw [has_put_other (key_ne (Ne.symm hx)), h.head.1.2, size_put h.tidy, hn.2, h.size] at h1
  simp only [List.length_cons, if_true, Bool.false_eq_true, if_false] at h1 ⊢
  omega
theorem DkOk.renOver {y : Fil} (h : DkOk S q (x :: y :: l) no L) (hD : IsMap S.dir) :
  DkOk { S with dir := doD S.dir (.ren x.name y.name), dchs := S.dchs ++ [.ren x.name y.name], lim := S.lim + 1, used := S.used - y.st.seen.length, ops := S.ops + 1 } q (⟨y.name, x.blk, x.st⟩ :: l) (no + 1) (L + 2) where
 dead := h.dead
 fuse := h.fuse
 quota := h.quota
 q0 := h.q0
 ops0 := by show 0 <= S.ops + 1; have := h.ops0; omega
 ops := by show S.ops + 1 <= _; have := h.ops; omega
 lim := by show S.lim + 1 + (S.dchs ++ [_]).length <= _; have := h.lim; simp; omega
 inv := h.inv.add (ch := .ren x.name y.name) ⟨x.blk, h.head.1⟩ rfl rfl rfl
 tidy := (h.tidy.put (key_lit y.name) _).del _
 ent := fun z hz => by
  have hxy := (h.ne y List.mem_cons_self).1
  have h2 := (h.perm (List.Perm.swap y x l)).ne
  rcases List.mem_cons.1 hz with rfl | hz
  ·exact ⟨ent_ren hD h.head.1 hxy, h.head.2.1, h.head.2.2.1, (h.ent y (by simp)).2.2.2⟩
  ·have h1 := h.ent z (List.mem_cons_of_mem _ (List.mem_cons_of_mem _ hz))
   exact ⟨ent_ren_other h1.1 (h.ne z (List.mem_cons_of_mem _ hz)).1 (h2 z (List.mem_cons_of_mem _ hz)).1, h1.2⟩
 no_ := fun s' hs' => by
  by_cases e : s' = x.name
  ·subst e
   exact noent_ren
  ·have hy : s' ≠ y.name := fun e' => hs' _ List.mem_cons_self e'.symm
   refine noent_ren_other (h.no_ s' fun z hz => ?_) e hy
   rcases List.mem_cons.1 hz with rfl | hz
   ·exact fun e' => e e'.symm
   ·rcases List.mem_cons.1 hz with rfl | hz
    ·exact fun e' => hy e'.symm
    ·exact hs' z (List.mem_cons_of_mem _ hz)
 names := by
  have := (List.nodup_cons.1 h.names).2
  simpa using this
 blks := by
  have := h.blks
  simp only [List.map_cons, List.nodup_cons, List.mem_cons, not_or] at this ⊢
  exact ⟨this.1.2, this.2.2⟩
 used := by
  have := h.used
  simp only [sumF, List.map_cons, List.sum_cons] at this ⊢
  push_cast at this ⊢
  omega
 usedq := by
  show S.used - (y.st.seen.length : Int) <= q
  have := h.usedq
  omega
 size := by
  show Maps.size ((S.dir.put (key y.name) (S.dir.atKey (key x.name) .nil)).del (key x.name)) = _
  have h1 := size_del (k := key x.name) (h.tidy.put (key_lit y.name) (S.dir.atKey (key x.name) .nil))
  have hy := h.ent y (by simp)
  rw [has_put_other (key_ne (Ne.symm (h.ne y List.mem_cons_self).1)), h.head.1.2, size_put h.tidy, hy.1.2, h.size] at h1
  simp only [List.length_cons, if_true] at h1 ⊢
  omega
end
def DK (w : World) (G : Gh) (d : Nat) (q : Int) (fs : List Fil) (no L : Nat) : Prop := ∃ S, DiskAt w G.ow d S /\ DkOk S q fs no L
def DkOut (w : World) (G : Gh) (d : Nat) (q : Int) (fs : List Fil) (no L : Nat) (v : Value) (e : Ending) (w' : World) : Prop :=
 ∃ G', e = .returned v /\ DK w' G' d q fs no L /\ Fx CK G G' w w' /\ Fin G' w' /\ G'.rl = G.rl
section
variable {w w' : World} {G G' : Gh} {d : Nat} {q : Int} {fs fs' : List Fil} {no no' L L' : Nat}
theorem DK.perm (h : DK w G d q fs no L) (hp : fs.Perm fs') : DK w G d q fs' no L := by
 obtain ⟨S, h1, h2⟩ := h
 exact ⟨S, h1, h2.perm hp⟩
theorem DK.more (h : DK w G d q fs no L) (h1 : no <= no') (h2 : L <= L') : DK w G d q fs no' L' := by
 obtain ⟨S, h3, h4⟩ := h
 exact ⟨S, h3, h4.more h1 h2⟩
theorem DK.keep {C : Tag -> Role -> Prop} (h : DK w G d q fs no L) (hF : Fx C G G' w w') (hC : ∀ t r, C t r -> t = .other) (hn : ∀ i, w.heap.size <= i -> G'.ow i = .other) : DK w' G' d q fs no L := by
 obtain ⟨S, h1, h2⟩ := h
 exact ⟨S, disk_keep h1 hF hC hn, h2⟩
theorem DK.below (h : DK w G d q fs no L) (hb : Below w.heap.size w w') : DK w' G d q fs no L := by
 obtain ⟨S, h1, h2⟩ := h
 exact ⟨S, h1.below hb, h2⟩
theorem DK.blk (h : DK w G d q fs no L) : ∀ x ∈ fs, x.blk < w.heap.size := fun x hx => by
 obtain ⟨S, ⟨ms, mf, vc, dvals, hV⟩, h2⟩ := h
 obtain ⟨_, _, _, _, hB, _⟩ := hV.2.2.2.2.2.2.1 x.blk x.st (h2.ent x hx).2.1
 exact hB.lt
theorem DkOut.of {S' : DiskS} {v : Value} {e : Ending} (hf : Fin G w) (h : DOut w G.ow d S' v e w') (hk : DkOk S' q fs no L) : DkOut w G d q fs no L v e w' := by
 obtain ⟨ow', rfl, hD, hF⟩ := h
 refine ⟨⟨ow', G.rl⟩, rfl, ⟨S', hD, hk⟩, Fx.disk hF, fun i hi => ⟨?_, (hf i (Nat.le_trans hF.size hi)).2⟩, rfl⟩
 obtain ⟨ms, mf, vc, dvals, hV⟩ := hD
 exact hV.new i hi
end
section
variable (w : World) (G : Gh) (d : Nat) (q : Int) (x : Fil) (l : List Fil) (no L : Nat)
theorem dk_create (h : DK w G d q l no L) (hf : Fin G w) (hno : no <= 1099511627776) (hL : L + 2 <= 1073741824) (s : ByteArray) (hg : GoodN s) (hs : ∀ y ∈ l, y.name ≠ s) (hl : l.length < 65536) :
  Calls Tryz.prog 153 #[.pointer (some ⟨d, 0, none⟩), .string s] w fun e w' => ∃ f, w.heap.size <= f /\ DkOut w G d q (⟨s, f, ⟨[], [], []⟩⟩ :: l) (no + 1) (L + 2) (.int .i64 0) e w' := by
 have hb := h.blk
 obtain ⟨S, hD, hk⟩ := h
 have := hk.lim
 have := hk.ops
 refine (create_any w G.ow d S hD hk.dead hk.fuse hk.ops0 (by omega) s hg (hk.no_ s hs) (by omega) (by rw [hk.size]; omega)).mono ?_
 rintro e w' ⟨f, ow', rfl, h1, h2, h3⟩
 exact ⟨f, h1, DkOut.of hf ⟨ow', rfl, h2, h3⟩ (hk.add hs (fun y hy => by have := hb y hy; omega) hg hD.map.1)⟩
theorem dk_append (h : DK w G d q (x :: l) no L) (hf : Fin G w) (hno : no <= 1099511627776) (A : Option Addr) (c : Nat) (b : List UInt8) (hb0 : 0 < b.length) (hR : RB w A b) (hu : (sumF (x :: l) + b.length : Nat) <= q) :
  Calls Tryz.prog 107 #[.pointer (some ⟨d, 0, none⟩), .string x.name, .slice A b.length c] w (DkOut w G d q (⟨x.name, x.blk, fApp x.st b⟩ :: l) (no + 1) L (.int .i64 0)) := by
 obtain ⟨S, hD, hk⟩ := h
 have := hk.ops
 have hus := hk.used
 have := hk.q0
 have hle := hk.head.2.2.1.len
 have h3 : x.st.seen.length <= sumF (x :: l) := by simp [sumF]
 refine (append_any w G.ow d x.blk S x.st hD hk.dead hk.fuse hk.ops0 (by omega) x.name hk.head.2.2.2 hk.head.1 hk.head.2.1 A c b hb0 hR (by omega) (by omega) (by omega) (by rw [hk.quota]; omega) (by rw [hk.quota]; omega)).mono ?_
 intro e w' ho
 exact DkOut.of hf ho (hk.turn (fApp x.st b) (hk.head.2.2.1.app hb0) _ (by simp only [fApp, List.length_append]; push_cast; omega) (by omega))
theorem dk_full (h : DK w G d q (x :: l) no L) (A : Option Addr) (c : Nat) (b : List UInt8) (hu : q < (sumF (x :: l) + b.length : Nat)) :
  Calls Tryz.prog 107 #[.pointer (some ⟨d, 0, none⟩), .string x.name, .slice A b.length c] w fun e w' => e = .returned (.int .i64 33) /\ Below w.heap.size w w' := by
 obtain ⟨S, hD, hk⟩ := h
 have hus := hk.used
 have := hk.usedq
 have := hk.q0
 exact append_full w G.ow d x.blk S hD hk.dead x.name hk.head.2.2.2 hk.head.1 A c b (by omega) (by rw [hk.quota]; exact hk.usedq) (by rw [hk.quota]; omega) (by rw [hk.quota]; omega)
theorem dk_sync (h : DK w G d q (x :: l) no L) (hf : Fin G w) (hno : no <= 1099511627776) :
  Calls Tryz.prog 140 #[.pointer (some ⟨d, 0, none⟩), .string x.name] w (DkOut w G d q (⟨x.name, x.blk, fSync x.st⟩ :: l) (no + 1) L (.int .i64 0)) := by
 obtain ⟨S, hD, hk⟩ := h
 have := hk.ops
 have hus := hk.used
 have := hk.usedq
 have := hk.q0
 have hle := hk.head.2.2.1.len
 have h3 : x.st.seen.length <= sumF (x :: l) := by simp [sumF]
 refine (sync_any w G.ow d x.blk S x.st hD hk.dead hk.fuse hk.ops0 (by omega) x.name hk.head.2.2.2 hk.head.1 hk.head.2.1 (fun k => by have := hk.head.2.2.1.take k; omega) (by omega)).mono ?_
 intro e w' ho
 exact DkOut.of hf ho (hk.turn (fSync x.st) hk.head.2.2.1.sync S.used (by rw [fSync_seen]; omega) hk.usedq)
theorem dk_syncdir (h : DK w G d q l no L) (hf : Fin G w) (hno : no <= 1099511627776) (hL : L <= 1073741824) :
  Calls Tryz.prog 80 #[.pointer (some ⟨d, 0, none⟩)] w (DkOut w G d q l (no + 1) L (.int .i64 0)) := by
 obtain ⟨S, hD, hk⟩ := h
 have := hk.ops
 have := hk.lim
 refine (syncdir_any w G.ow d S hD hk.dead hk.fuse hk.ops0 (by omega) hk.inv.2 (by omega)).mono ?_
 intro e w' ho
 exact DkOut.of hf ho hk.syncdir
theorem dk_remove (h : DK w G d q (x :: l) no L) (hf : Fin G w) (hno : no <= 1099511627776) (hL : L + 2 <= 1073741824) :
  Calls Tryz.prog 79 #[.pointer (some ⟨d, 0, none⟩), .string x.name] w (DkOut w G d q l (no + 1) (L + 2) (.int .i64 0)) := by
 obtain ⟨S, hD, hk⟩ := h
 have := hk.ops
 have := hk.lim
 have hus := hk.used
 have := hk.usedq
 have := hk.q0
 have h3 : x.st.seen.length <= sumF (x :: l) := by simp [sumF]
 refine (remove_yes w G.ow d x.blk S hD hk.dead hk.fuse hk.ops0 (by omega) x.name hk.head.2.2.2 hk.head.1 x.st hk.head.2.1 (by omega) (by omega) (by omega)).mono ?_
 intro e w' ho
 exact DkOut.of hf ho hk.rem
theorem dk_quota (h : DK w G d q l no L) : Calls Tryz.prog 11 #[.pointer (some ⟨d, 0, none⟩)] w fun e w' => e = .returned (.int .i64 q) /\ w' = w := by
 obtain ⟨S, hD, hk⟩ := h
 rw [<- hk.quota]
 exact quota_any w G.ow d S hD
theorem dk_used (h : DK w G d q l no L) : Calls Tryz.prog 12 #[.pointer (some ⟨d, 0, none⟩)] w fun e w' => e = .returned (.int .i64 (sumF l : Nat)) /\ w' = w := by
 obtain ⟨S, hD, hk⟩ := h
 rw [<- hk.used]
 exact used_any w G.ow d S hD
theorem dk_dead (h : DK w G d q l no L) : Calls Tryz.prog 58 #[.pointer (some ⟨d, 0, none⟩)] w fun e w' => e = .returned (.bool false) /\ w' = w := by
 obtain ⟨S, hD, hk⟩ := h
 rw [<- hk.dead]
 exact dead_any w G.ow d S hD
end
end Go.Proofs.YtendlmdmbkcdnaaGreatDoor.dk
namespace Go.Proofs.YtendlmdmbkcdnaaGreatDoor.sg
open Go.RowKit Go.Maps Go.WideMaps oc rc gh dk
open Go.Lib (hid)
set_option maxRecDepth 100000
def TabG (w : World) (G : Gh) : Prop := Tab w /\ Is G 2 none
theorem tab_lt {w : World} (h : Tab w) : 2 < w.heap.size := by
 have hv : w.var? Tryz.prog "internal/strconv.uint64pow10" = some ((Lib.pow10Tab.map fun z => Value.int .u64 z).toArray) := h
 unfold World.var? at hv
 rw [show Tryz.prog.globalNamed "internal/strconv.uint64pow10" = some 2 by kernel_rfl] at hv
 rcases Nat.lt_or_ge 2 w.heap.size with h1 | h1
 ·exact h1
 ·simp [Array.getElem?_eq_none h1] at hv
theorem TabG.keep {C : Tag -> Role -> Prop} {G G' : Gh} {w w' : World} (h : TabG w G) (hF : Fx C G G' w w') (hC : ¬ C .other none) : TabG w' G' := by
 have hlt := tab_lt h.1
 have hb : w'.heap[2]? = w.heap[2]? := hF.keep _ hlt (by rw [h.2.1, h.2.2]; exact hC)
 refine ⟨?_, h.2.keep hF hlt⟩
 have hv : w.var? Tryz.prog "internal/strconv.uint64pow10" = some ((Lib.pow10Tab.map fun z => Value.int .u64 z).toArray) := h.1
 show w'.var? Tryz.prog "internal/strconv.uint64pow10" = some ((Lib.pow10Tab.map fun z => Value.int .u64 z).toArray)
 rw [<- hv]
 unfold World.var?
 rw [show Tryz.prog.globalNamed "internal/strconv.uint64pow10" = some 2 by kernel_rfl]
 simp only [Option.bind_some, hb]
theorem TabG.below {G : Gh} {w w' : World} (h : TabG w G) (hb : Below w.heap.size w w') : TabG w' G := h.keep (C := CN) (Fx.below hb) (fun x => x)
theorem ck_other {r : Role} : ¬ CK .other r := fun h => h.1 rfl
theorem SegAt.ck {G G' : Gh} {w w' : World} {τ g d : Nat} {X : SegS} (h : SegAt w G τ g d X) (hF : Fx CK G G' w w') : SegAt w' G' τ g d X := h.keep hF ck_other ck_other ck_other
def fileN (i : Inf) : ByteArray := Sb (nameN i.topic i.seg)
theorem name_is (w : World) (topic seg : Int) (h1 : okNum topic = true) (h2 : okNum seg = true) (ht : Tab w) (s : ByteArray) (hs : Sb (nameN topic seg) = s) :
  Calls Tryz.prog 24 #[.int .i64 topic, .int .i64 seg] w fun e w' => e = .returned (.string s) /\ Below w.heap.size w w' := by
 rw [<- hs]
 exact name_any w topic seg h1 h2 ht
set_option maxHeartbeats 2000000 in
theorem file_any (w : World) (G : Gh) (τ g d : Nat) (X : SegS) (h : SegAt w G τ g d X) (ht : Tab w) (h1 : okNum X.i.topic = true) (h2 : okNum X.i.seg = true) (s : ByteArray) (hs : fileN X.i = s) :
  Calls Tryz.prog 108 #[.pointer (some ⟨g, 0, none⟩)] w fun e w' => e = .returned (.string s) /\ Below w.heap.size w w' := by
 obtain ⟨mp, ov, ⟨hB, _⟩, _⟩ := h
 have k2 := fun d os => cell_regrown (show w.cell? ⟨g, 2, none⟩ = some (.int .i64 X.i.topic) from (hB.cell 2).trans rfl) d os
 have k3 := fun d os => cell_regrown (show w.cell? ⟨g, 3, none⟩ = some (.int .i64 X.i.seg) from (hB.cell 3).trans rfl) d os
 have q1 : QC Tryz.prog w 24 #[.int .i64 X.i.topic, .int .i64 X.i.seg] (.string s) := below_qc (fun W hb => name_is W _ _ h1 h2 (tab_below ht hb) s hs)
 clear hB ht h1 h2 hs
 generalize X.i.topic = tp at *
 generalize X.i.seg = sn at *
 go_enter Tryz.func108, Tryz.ntmps108
 go_wp2_with fail
 refine wp_region_quiet_below (by kernel_rfl) (by kernel_rfl) ?_
 repeat (first | go_big_quiet_skip | (go_big_quiet_want; go_big_quiet_op; first | go_big_quiet_on | (apply Exists.intro; refine ⟨fun _ => ?_, ?_⟩; · (first | with_reducible exact q1 _ _)); go_big_quiet_on))
 refine wpQuiet_nil ?_
 intro w1 hw'
 obtain ⟨⟨dq, osq⟩, hw''⟩ := hw'
 have HB1 : Hid (Below w.heap.size w w1) := by rw [hw'']; exact below_regrown w dq osq
 clear hw'' q1 k2 k3
 go_wp2_with fail
 go_ret
 exact ⟨rfl, HB1.out⟩
set_option maxHeartbeats 2000000 in
theorem sync_any (w : World) (G : Gh) (τ g d : Nat) (X : SegS) (q : Int) (x : Fil) (l : List Fil) (no L : Nat) (h : SegAt w G τ g d X) (ht : Tab w) (h1 : okNum X.i.topic = true) (h2 : okNum X.i.seg = true) (hk : DK w G d q (x :: l) no L) (hf : Fin G w) (hno : no <= 1099511627776) (hx : x.name = fileN X.i) :
  Calls Tryz.prog 81 #[.pointer (some ⟨g, 0, none⟩)] w (DkOut w G d q (⟨x.name, x.blk, fSync x.st⟩ :: l) (no + 1) L (.int .i64 0)) := by
 have q1 : QC Tryz.prog w 108 #[.pointer (some ⟨g, 0, none⟩)] (.string x.name) := below_qc (fun W hb => file_any W G τ g d X (h.below hb) (tab_below ht hb) h1 h2 _ hx.symm)
 obtain ⟨mp, ov, ⟨hB, _⟩, _⟩ := h
 have k0 := fun d' os => cell_regrown (show w.cell? ⟨g, 0, none⟩ = some (.pointer (some ⟨d, 0, none⟩)) from (hB.cell 0).trans rfl) d' os
 have HK := hid hk
 have HF := hid hf
 have HN := hid hno
 clear hB ht h1 h2 hk hf hno hx
 go_enter Tryz.func81, Tryz.ntmps81
 go_wp2_with fail
 refine wp_quiet_tail 6 (by kernel_rfl) (by kernel_rfl) (by kernel_rfl) ?_
 simp only [List.take, List.drop]
 repeat (first | go_big_quiet_skip | (go_big_quiet_want; go_big_quiet_op; first | go_big_quiet_on | (apply Exists.intro; refine ⟨fun _ => ?_, ?_⟩; · (first | with_reducible exact q1 _ _)); go_big_quiet_on))
 refine wpQuiet_nil ?_
 intro w1 hw'
 obtain ⟨⟨dq, osq⟩, hw''⟩ := hw'
 have HB1 : Hid (Below w.heap.size w w1) := by rw [hw'']; exact below_regrown w dq osq
 clear hw'' q1 k0
 go_wp2_with (first
  | (go_at_call 140; refine (dk_sync w1 G d q x l no L (HK.out.below HB1.out) (HF.out.more HB1.out.size) HN.out).mono ?_; rintro e w2 ⟨G2, rfl, hk2, hx2, hf2, hr2⟩; have HK2 := hid hk2; have HX2 := hid hx2; have HF2 := hid hf2; have HR2 := hid hr2; clear hk2 hx2 hf2 hr2)
  | fail)
 go_ret
 exact ⟨G2, rfl, HK2.out, (Fx.below HB1.out).trans HX2.out, HF2.out, HR2.out⟩
def CKS (τ : Nat) : Tag -> Role -> Prop := fun t r => CK t r \/ CS τ t r
theorem cks_k {τ : Nat} : ∀ t r, CK t r -> CKS τ t r := fun _ _ h => Or.inl h
theorem cks_s {τ : Nat} : ∀ t r, CS τ t r -> CKS τ t r := fun _ _ h => Or.inr h
theorem cks_seg {τ : Nat} : ∀ t, t = .other -> CKS τ t (some (τ, .seg)) := fun _ h => Or.inr ⟨h, Or.inl rfl⟩
theorem tailN_len (a b c : Nat) : (tailN a b c).length = 17 := by simp [tailN, tl1_len, be4_len]
def sealedS (X : SegS) : SegS := { X with i := { X.i with size := X.i.size + 17, sealed := true } }
set_option maxHeartbeats 4000000 in
theorem seal_any (w : World) (G : Gh) (τ g d : Nat) (X : SegS) (q : Int) (x : Fil) (l : List Fil) (no L : Nat) (h : SegAt w G τ g d X) (ht : TabG w G) (h1 : okNum X.i.topic = true) (h2 : okNum X.i.seg = true) (hk : DK w G d q (x :: l) no L) (hf : Fin G w) (hno : no + 1 <= 1099511627776) (hx : x.name = fileN X.i)
  (hse : X.i.sealed = false) (hsum : X.sum < 4294967296) (hct : X.i.count < 4294967296) (hs0 : 0 <= X.i.size) (hs1 : X.i.size <= 1073741824) (hu : (sumF (x :: l) + 17 : Nat) <= q) :
  Calls Tryz.prog 98 #[.pointer (some ⟨g, 0, none⟩)] w fun e w' => ∃ G', e = .returned (.int .i64 0) /\ DK w' G' d q (⟨x.name, x.blk, fSync (fApp x.st (tailN X.sum X.i.count (u64of X.i.last)))⟩ :: l) (no + 2) L /\ SegAt w' G' τ g d (sealedS X) /\ Fx (CKS τ) G G' w w' /\ Fin G' w' /\ G'.rl = G.rl := by
 have hS := h
 obtain ⟨mp, ov, hV, hM, hR⟩ := h
 obtain ⟨ic, hic⟩ : ∃ c, X.i.cells = c := ⟨_, rfl⟩
 have hT := fun W => tail_any W X.sum X.i hsum hct
 rw [hic] at hT
 have HTL := hid (tailN_len X.sum X.i.count (u64of X.i.last))
 obtain ⟨tl, htl⟩ : ∃ b, tailN X.sum X.i.count (u64of X.i.last) = b := ⟨_, rfl⟩
 rw [htl] at hT HTL ⊢
 have HT := hid hT
 have k0 : ∀ w', Blk w' g 205 (segC d X mp ov) -> w'.cell? ⟨g, 0, none⟩ = some (.pointer (some ⟨d, 0, none⟩)) := fun w' hb => (hb.cell 0).trans rfl
 have k2 : ∀ w', Blk w' g 205 (segC d X mp ov) -> w'.cell? ⟨g, 2, none⟩ = some (.int .i64 X.i.topic) := fun w' hb => (hb.cell 2).trans rfl
 have k3 : ∀ w', Blk w' g 205 (segC d X mp ov) -> w'.cell? ⟨g, 3, none⟩ = some (.int .i64 X.i.seg) := fun w' hb => (hb.cell 3).trans rfl
 have k4 : ∀ w', Blk w' g 205 (segC d X mp ov) -> w'.cell? ⟨g, 4, none⟩ = some (.int .i64 X.i.base) := fun w' hb => (hb.cell 4).trans rfl
 have k5 : ∀ w', Blk w' g 205 (segC d X mp ov) -> w'.cell? ⟨g, 5, none⟩ = some (.int .i64 X.i.size) := fun w' hb => (hb.cell 5).trans rfl
 have k6 : ∀ w', Blk w' g 205 (segC d X mp ov) -> w'.cell? ⟨g, 6, none⟩ = some (.int .i64 (X.i.count : Int)) := fun w' hb => (hb.cell 6).trans rfl
 have k7 : ∀ w', Blk w' g 205 (segC d X mp ov) -> w'.cell? ⟨g, 7, none⟩ = some (.int .i64 X.i.last) := fun w' hb => (hb.cell 7).trans rfl
 have k8 : ∀ w', Blk w' g 205 (segC d X mp ov) -> w'.cell? ⟨g, 8, none⟩ = some (.bool X.i.sealed) := fun w' hb => (hb.cell 8).trans rfl
 have k9 : ∀ w', Blk w' g 205 (segC d X mp ov) -> w'.cell? ⟨g, 9, none⟩ = some (.int .u32 (X.sum : Int)) := fun w' hb => (hb.cell 9).trans rfl
 have c8 : w.cell? ⟨g, 8, none⟩ = some (.bool false) := (hV.cell 8).trans (by rw [<- hse]; rfl)
 have e1 : IntKind.i64.wrap (X.i.size + 17) = X.i.size + 17 := by rw [IntKind.wrap_i64]; omega
 have HV := hid hV
 have HM := hid hM
 have HRW := hid hR
 have HK := hid hk
 have HF := hid hf
 have HN := hid hno
 have HU := hid hu
 have HX := hid hx
 have HTG := hid ht
 have H1 := hid h1
 have H2 := hid h2
 have JF : ∀ W, Below w.heap.size w W -> Calls Tryz.prog 108 #[.pointer (some ⟨g, 0, none⟩)] W fun e w' => e = .returned (.string x.name) /\ Below W.heap.size W w' := fun W hb => file_any W G τ g d X (hS.below hb) (tab_below ht.1 hb) h1 h2 _ hx.symm
 have JA : ∀ W A2 c2, Below w.heap.size w W -> W.ownsRow 0 5 1 (.slice A2 tl.length c2) tl.length (bc tl) -> Calls Tryz.prog 107 #[.pointer (some ⟨d, 0, none⟩), .string x.name, .slice A2 tl.length c2] W fun e w' => ∃ G', e = .returned (.int .i64 0) /\ DK w' G' d q (⟨x.name, x.blk, fApp x.st tl⟩ :: l) (no + 1) L /\ Fx CK G G' W w' /\ Fin G' w' /\ G'.rl = G.rl := fun W A2 c2 hb ho =>
  dk_append W G d q x l no L (hk.below hb) (hf.more hb.size) (by omega) A2 c2 tl (by have := HTL.out; omega) (RB.of_own ho) (by have := HTL.out; omega)
 have HJF := hid JF
 have HJA := hid JA
 have HBL := hid hV.1
 dsimp only [Inf.cells] at hic
 subst hic
 clear hV hM hR ht h1 h2 hk hf hno hx hu hT hse hsum hct hs0 hs1 htl JF JA hS
 go_enter Tryz.func98, Tryz.ntmps98
 go_wp2_with fail
 clear c8
 go_region_held3 (fun w' => Blk w' g 205 (segC d X mp ov)) (first | assumption | exact HBL.out.drew | exact HBL.out) (first
  | (go_at_call 108; refine (HJF.out _ (by exact Below.drew (Below.refl _ _))).mono ?_; rintro e WF ⟨rfl, hbF0⟩; have hbF : Below w.heap.size w WF := (Below.drew (Below.refl _ _) : Below w.heap.size w w.drew).trans hbF0; have hBF := HBL.out.below hbF HBL.out.lt)
  | (go_at_call 77; refine (HT.out WF).mono ?_; rintro e WT ⟨A2, c2, rfl, o2, b2⟩; have hbT : Below w.heap.size w WT := hbF.trans (b2.mono hbF.size); have hBT := HBL.out.below hbT HBL.out.lt; have HO2 := hid (own_less o2 (Nat.zero_le _)))
  | (go_at_call 107; refine (HJA.out WT A2 c2 hbT HO2.out).mono ?_; rintro e w3 ⟨G3, rfl, hk3, hx3, hf3, hr3⟩; have hB3 : Blk w3 g 205 (segC d X mp ov) := (HV.out.keep ((Fx.below hbT).trans hx3) ck_other).1)
  | fail)
 have HK3 := hid hk3
 have HX3 : Hid (Fx CK G G3 w w3) := hid ((Fx.below hbT).trans hx3)
 have HF3 := hid hf3
 have HR3 := hid hr3
 have HV3 := hid (HV.out.keep HX3.out ck_other)
 have d5 : w3.cell? ⟨g, 5, none⟩ = some (.int .i64 X.i.size) := (HV3.out.cell 5).trans rfl
 have f5 := HV3.out.frozen 5
 have d8 : w3.cell? ⟨g, 8, none⟩ = some (.bool X.i.sealed) := (HV3.out.cell 8).trans rfl
 have f8 := HV3.out.frozen 8
 clear hk3 hx3 hf3 hr3 HO2 HT k0 k2 k3 k4 k5 k6 k7 k8 k9 hBF hBT hB3
 go_wp2_with fail
 have hX4 : Fx (CR (some (τ, Part.seg))) G3 G3 w3 ((w3.setCell ⟨g, 5, none⟩ (.int .i64 (X.i.size + 17))).setCell ⟨g, 8, none⟩ (.bool true)) := (Fx.set 5 _ HV3.out.2).trans (Fx.set 8 _ HV3.out.2)
 have hB4 : BlkR ((w3.setCell ⟨g, 5, none⟩ (.int .i64 (X.i.size + 17))).setCell ⟨g, 8, none⟩ (.bool true)) G3 g 205 (segC d (sealedS X) mp ov) (some (τ, .seg)) := (HV3.out.set 5 _).set 8 _
 generalize (w3.setCell ⟨g, 5, none⟩ (.int .i64 (X.i.size + 17))).setCell ⟨g, 8, none⟩ (.bool true) = w4 at hX4 hB4 ⊢
 have HX4 := hid (hX4.mono (C' := CKS τ) (fun t r hr => by obtain ⟨h1, rfl⟩ := hr; exact cks_seg t h1))
 have HS4 : Hid (SegAt w4 G3 τ g d (sealedS X)) := hid (by
  obtain ⟨D, hm⟩ := HM.out
  obtain ⟨xs, hrw⟩ := HRW.out
  exact ⟨mp, ov, hB4, ⟨D, (hm.keep HX3.out ck_other).keep hX4 (by rintro ⟨_, h⟩; cases h)⟩, ⟨xs, (hrw.keep HX3.out ck_other).keep hX4 (by rintro ⟨_, h⟩; cases h)⟩⟩)
 have HTG4 := hid ((HTG.out.keep HX3.out ck_other).keep hX4 (by rintro ⟨_, h⟩; cases h))
 have HK4 := hid (HK3.out.keep hX4 (fun t r h => h.1) (HF3.out.ow))
 have HF4 := hid (HF3.out.more hX4.size)
 clear d5 f5 d8 f8 hX4 hB4 e1
 refine (sync_any w4 G3 τ g d (sealedS X) q ⟨x.name, x.blk, fApp x.st tl⟩ l (no + 1) L HS4.out HTG4.out.1 H1.out H2.out HK4.out HF4.out (by have := HN.out; omega) HX.out).mono ?_
 rintro e w5 ⟨G5, rfl, hk5, hx5, hf5, hr5⟩
 have HK5 := hid hk5
 have HX5 := hid hx5
 have HF5 := hid hf5
 have HR5 := hid hr5
 clear hk5 hx5 hf5 hr5
 go_wp2_with fail
 go_ret
 exact ⟨G5, rfl, HK5.out, HS4.out.ck HX5.out, ((HX3.out.mono cks_k).trans HX4.out).trans (HX5.out.mono cks_k), HF5.out, HR5.out.trans HR3.out⟩
end Go.Proofs.YtendlmdmbkcdnaaGreatDoor.sg
namespace Go.Proofs.YtendlmdmbkcdnaaGreatDoor.sg
open Go.RowKit Go.Maps Go.WideMaps oc rc gh dk
open Go.Lib (hid)
open kd (blt)
set_option maxRecDepth 100000
theorem bal {w W : World} (h : Below w.heap.size w W) (o : Obj) : Below w.heap.size w (W.alloc o) := h.alloc h.size o
def seg0 (limit : Int) (i : Inf) (sum : Nat) : SegS := ⟨limit, i, sum, 0⟩
def MadeOut (w : World) (G : Gh) (τ d : Nat) (X : SegS) (v : Value) (w' : World) : Prop := ∃ g G', v = .pointer (some ⟨g, 0, none⟩) /\ w.heap.size <= g /\ SegAt w' G' τ g d X /\ Below w.heap.size w w' /\ Fx CN G G' w w' /\ Fin G' w' /\ G'.ow = G.ow
theorem made_fin {w : World} {G : Gh} {τ d : Nat} {limit : Int} {i : Inf} {sum : Nat} (hf : Fin G w) (U : World) (hU : Below w.heap.size w U) (m : Nat) (hm : U.ownsMap Tryz.prog 3 anyR m 0 (.map [])) (hml : w.heap.size <= m) (n : Nat) (hn : U.heap.size = n) :
  MadeOut w G τ d (seg0 limit i sum) (.pointer (some ⟨n, 0, none⟩)) (U.alloc (.cells (segC d (seg0 limit i sum) m (.slice none 0 0)) 205)) := by
 subst hn
 have hlt := hm.lt
 have hs := hU.size
 refine ⟨U.heap.size, (G.put m (some (τ, .places))).put U.heap.size (some (τ, .seg)), rfl, hs, ⟨m, _, ⟨Blk.new U _ _, Gh.put_same _ _ _ ?_⟩, ⟨_, hm.alloc _, Gh.put_other (Gh.put_same _ _ _ (hf m hml).1) (by omega)⟩, ⟨[], RowR.none_ _ _ _ _ 0 _⟩⟩, hU.alloc hs _, ((Fx.below (hU.alloc hs _)).put hml _).put hs _, fun i hi => ?_, rfl⟩
 ·exact (hf U.heap.size hs).1
 ·rw [World.size_alloc] at hi
  exact Gh.put_other (Gh.put_other (hf i (by omega)) (by omega)) (by omega)
set_option maxHeartbeats 4000000 in
theorem made_nil (w : World) (G : Gh) (τ d : Nat) (limit : Int) (A : Option Addr) (c : Nat) (b : List UInt8) (i : Inf) (c2 : Nat) (hf : Fin G w) (hR : RB w A b) (hb : b.length <= 1099511627776) :
  Calls Tryz.prog 155 #[.pointer (some ⟨d, 0, none⟩), .int .i64 limit, .slice A b.length c, .agg i.cells, .slice none 0 c2] w fun e w' => ∃ v, e = .returned v /\ MadeOut w G τ d (seg0 limit i (extN 0 b)) v w' := by
 have hmm := @run_makeMap Tryz.prog
 obtain ⟨i1, i2, i3, i4, i5, i6, i7⟩ := i
 dsimp only [Inf.cells]
 have JS : ∀ W, Below w.heap.size w W -> Calls Tryz.prog 78 #[.slice A b.length c] W fun e w' => e = .returned (.int .u32 (extN 0 b : Nat)) /\ Below W.heap.size W w' := fun W hw => Go.Proofs.YtendlmdmbkcdnaaGreatDoor.oc.sum_any b (by omega) A c W (hR.below hw)
 obtain ⟨su, hsu⟩ : ∃ n, extN 0 b = n := ⟨_, rfl⟩
 rw [hsu] at JS ⊢
 have HF := hid hf
 clear hsu hf hR hb
 go_enter Tryz.func155, Tryz.ntmps155
 go_wp2_with fail
 obtain ⟨w0, hw0⟩ : ∃ x, w.alloc (.cells #[.int .i64 i1, .int .i64 i2, .int .i64 i3, .int .i64 i4, .int .i64 (i5 : Int), .int .i64 i6, .bool i7] 79) = x := ⟨_, rfl⟩
 have HB0 : Hid (Below w.heap.size w w0) := by rw [<- hw0]; exact hid ((Below.refl _ _).alloc (Nat.le_refl _) _)
 have HK0 : Hid (Blk w0 w.heap.size 79 #[.int .i64 i1, .int .i64 i2, .int .i64 i3, .int .i64 i4, .int .i64 (i5 : Int), .int .i64 i6, .bool i7]) := by rw [<- hw0]; exact hid (Blk.new w _ _)
 simp only [hw0]
 clear hw0
 have e0 : ∀ w', Below w0.heap.size w0 w' -> w'.cell? ⟨w.heap.size, 0, none⟩ = some (.int .i64 i1) := fun w' hb => ((HK0.out.below hb HK0.out.lt).cell 0).trans rfl
 have e1 : ∀ w', Below w0.heap.size w0 w' -> w'.cell? ⟨w.heap.size, 1, none⟩ = some (.int .i64 i2) := fun w' hb => ((HK0.out.below hb HK0.out.lt).cell 1).trans rfl
 have e2 : ∀ w', Below w0.heap.size w0 w' -> w'.cell? ⟨w.heap.size, 2, none⟩ = some (.int .i64 i3) := fun w' hb => ((HK0.out.below hb HK0.out.lt).cell 2).trans rfl
 have e3 : ∀ w', Below w0.heap.size w0 w' -> w'.cell? ⟨w.heap.size, 3, none⟩ = some (.int .i64 i4) := fun w' hb => ((HK0.out.below hb HK0.out.lt).cell 3).trans rfl
 have e4 : ∀ w', Below w0.heap.size w0 w' -> w'.cell? ⟨w.heap.size, 4, none⟩ = some (.int .i64 (i5 : Int)) := fun w' hb => ((HK0.out.below hb HK0.out.lt).cell 4).trans rfl
 have e5 : ∀ w', Below w0.heap.size w0 w' -> w'.cell? ⟨w.heap.size, 5, none⟩ = some (.int .i64 i6) := fun w' hb => ((HK0.out.below hb HK0.out.lt).cell 5).trans rfl
 have e6 : ∀ w', Below w0.heap.size w0 w' -> w'.cell? ⟨w.heap.size, 6, none⟩ = some (.bool i7) := fun w' hb => ((HK0.out.below hb HK0.out.lt).cell 6).trans rfl
 have JS0 : ∀ W, Below w0.heap.size w0 W -> Calls Tryz.prog 78 #[.slice A b.length c] W fun e w' => e = .returned (.int .u32 (su : Nat)) /\ Below W.heap.size W w' := fun W hw => JS W (HB0.out.trans (hw.mono HB0.out.size))
 clear JS
 go_cut [11] (fun v wx => MadeOut w G τ d (seg0 limit ⟨i1, i2, i3, i4, i5, i6, i7⟩ su) v wx)
 case first =>
  go_region_held3 (fun w' => Below w0.heap.size w0 w') (first | assumption | exact Below.drew (Below.refl _ _) | exact bal (by assumption) _ | exact bal (Below.drew (Below.refl _ _)) _) (first
   | (go_at_call 78; with_reducible refine (JS0 _ (by assumption)).mono ?_; rintro e WS ⟨rfl, hbS0⟩; have hbS : Below w0.heap.size w0 WS := blt (by assumption) hbS0)
   | fail)
  all_goals
   go_wp2_with fail
   go_meet
   first
    | exact made_fin HF.out WS (HB0.out.trans (hbS.mono HB0.out.size)) _ (map_keepH (made_at rfl) (hbS0.block _ (by simp))) (by have := HB0.out.size; simpa using this) _ rfl
    | exact made_fin HF.out (WS.alloc _) (bal (HB0.out.trans (hbS.mono HB0.out.size)) _) _ (made_at rfl) (Nat.le_trans HB0.out.size hbS.size) _ (by simp)
 case rest =>
  clear e0 e1 e2 e3 e4 e5 e6 JS0
  obtain ⟨g, G', rfl, h1, h2, h3, h4, h5, h6⟩ := hcut
  have H1 := hid h1
  have H2 := hid h2
  have H3 := hid h3
  have H4 := hid h4
  have H5 := hid h5
  have H6 := hid h6
  clear h1 h2 h3 h4 h5 h6
  go_wp2_with fail
  go_loop [24] (fun x => x = .int .i64 0) (fun _ => 0)
  case atStart => rfl
  case round =>
   subst hrel
   go_wp2_with fail
   go_ret
   exact ⟨_, rfl, g, G', rfl, H1.out, H2.out, H3.out, H4.out, H5.out, H6.out⟩
end Go.Proofs.YtendlmdmbkcdnaaGreatDoor.sg
