/-
  Plain law of the document's reader: a command's line is read as the command; so both readers with their last look agree on every line.
  Conditions: none beyond the numbers' types.
-/
import Derived.Test.YtepalbldleegiaaGreatDoorShc
namespace Go.Proofs.YtepalbldleegiaaGreatDoor.sh
open Go.Lib (itoa decDigits atoiAll NumEnd)

/-- of digits: below 0; w: how an int64 wraps -/
def rdN (w : Int → Int) (n : Int) : Bs → Int
  | [] => n
  | c :: s => rdN w (w (w (n * 10) - ((c - 48 : UInt8).toNat : Int))) s
def readN (w : Int → Int) (s : Bs) : Int := if s.head? = some 45 then rdN w 0 ((s.take 20).drop 1) else w (-(rdN w 0 (s.take 20)))
def Wr (w : Int → Int) : Prop := ∀ x : Int, -9223372036854775808 ≤ x → x ≤ 9223372036854775807 → w x = x
theorem rdN_append (w : Int → Int) (a b : Bs) : ∀ n, rdN w n (a ++ b) = rdN w (rdN w n a) b := by
  induction a with
  | nil => intro n; rfl
  | cons c a ih => intro n; exact ih _
theorem digit_sub (k : Nat) (h : k < 10) : ((UInt8.ofNat (48 + k) - 48 : UInt8).toNat : Int) = k := by
  have : ∀ k : Fin 10, ((UInt8.ofNat (48 + k.val) - 48 : UInt8).toNat : Int) = k.val := by decide
  exact this ⟨k, h⟩
theorem rdN_dec (w : Int → Int) (hw : Wr w) (u : Nat) : u ≤ 9223372036854775808 → rdN w 0 (decDigits u) = -(u : Int) := by
  induction u using Nat.strongRecOn with
  | _ u ih =>
    intro hu
    by_cases h : u < 10
    · rw [dec_small h]
      simp only [rdN, digit_sub u h]
      rw [hw (0 * 10) (by omega) (by omega), hw _ (by omega) (by omega)]; omega
    · rw [dec_big h, rdN_append, ih (u / 10) (by omega) (by omega)]
      simp only [rdN, digit_sub (u % 10) (by omega)]
      rw [hw (-((u / 10 : Nat) : Int) * 10) (by omega) (by omega), hw _ (by omega) (by omega)]; omega
theorem dec_lenJ : ∀ (k u : Nat), u < 10 ^ (k + 1) → (decDigits u).length ≤ k + 1
  | 0, u, h => by rw [dec_small (by simpa using h)]; simp
  | k + 1, u, h => by
    by_cases h10 : u < 10
    · rw [dec_small h10]; simp
    · rw [dec_big h10, List.length_append, List.length_singleton]
      have := dec_lenJ k (u / 10) (by rw [Nat.pow_succ] at h; omega)
      omega
theorem readN_itoa (w : Int → Int) (hw : Wr w) (n : Int) (h0 : -9223372036854775808 ≤ n) (h1 : n ≤ 9223372036854775807) : readN w (itoa n) = n := by
  have hl : ∀ u : Nat, u ≤ 9223372036854775808 → (decDigits u).length ≤ 19 := fun u hu => dec_lenJ 18 u (by omega)
  unfold itoa
  by_cases hn : n < 0
  · rw [if_pos hn]
    unfold readN
    rw [if_pos (by simp), List.take_of_length_le (by have := hl n.natAbs (by omega); simp; omega)]
    simp only [List.drop_succ_cons, List.drop_zero]
    rw [rdN_dec w hw _ (by omega)]; omega
  · rw [if_neg hn]
    unfold readN
    rw [List.take_of_length_le (by have := hl n.toNat (by omega); omega), if_neg]
    · rw [rdN_dec w hw _ (by omega), hw _ (by omega) (by omega)]; omega
    · intro e
      have := vis_dec n.toNat 45 (List.mem_of_head? e)
      exact absurd this.1 (by decide)

def digR (c : UInt8) : UInt8 := if 97 ≤ c ∧ c ≤ 102 then c - 97 + 10 else if 48 ≤ c ∧ c ≤ 57 then c - 48 else 0
theorem digR_hex (c : UInt8) : digR (hexd (c.toNat / 16)) * 16 + digR (hexd (c.toNat % 16)) = c := by
  have hd : ∀ a : Nat, a < 16 → digR (hexd a) = UInt8.ofNat a := by
    intro a ha
    have : ∀ a : Fin 16, digR (hexd a.val) = UInt8.ofNat a.val := by decide
    exact this ⟨a, ha⟩
  rw [hd _ (hex_lt c).1, hd _ (hex_lt c).2]
  apply UInt8.toNat_inj.1
  have := hex_lt c
  have hc := c.toNat_lt
  rw [UInt8.toNat_add, UInt8.toNat_mul, UInt8.toNat_ofNat', UInt8.toNat_ofNat']
  show (c.toNat / 16 % 256 * 16 % 256 + c.toNat % 16 % 256) % 256 = c.toNat
  omega
/-- what stands behind the opening quote (the closing one is the last byte) -/
def rdT : Bs → Bs
  | [] => []
  | [_] => []
  | c :: d :: [] => if c = 92 then [d] else c :: rdT [d]
  | c :: d :: [h] => if c = 92 then d :: rdT [h] else c :: rdT (d :: [h])
  | c :: d :: h :: l :: s => if c = 92 ∧ d = 120 then (digR h * 16 + digR l) :: rdT s else if c = 92 then d :: rdT (h :: l :: s) else c :: rdT (d :: h :: l :: s)
termination_by l => l.length
theorem rdT_plain (c : UInt8) (s : Bs) (h : c ≠ 92) (hs : s ≠ []) : rdT (c :: s) = c :: rdT s := by
  match s, hs with
  | [d], _ => conv => lhs; rw [rdT, if_neg h]
  | [d, e], _ => conv => lhs; rw [rdT, if_neg h]
  | d :: e :: f :: s, _ => conv => lhs; rw [rdT, if_neg (fun x => h x.1), if_neg h]
theorem rdT_two (d : UInt8) (s : Bs) (h : d ≠ 120) : rdT (92 :: d :: s) = d :: rdT s := by
  match s with
  | [] =>
    conv => lhs; rw [rdT, if_pos rfl]
    simp [rdT]
  | [e] => conv => lhs; rw [rdT, if_pos rfl]
  | e :: f :: s => conv => lhs; rw [rdT, if_neg (fun x => h x.2), if_pos rfl]
theorem rdT_hex (h l : UInt8) (s : Bs) : rdT (92 :: 120 :: h :: l :: s) = (digR h * 16 + digR l) :: rdT s := by
  rw [rdT, if_pos ⟨rfl, rfl⟩]
theorem rdT_esc : ∀ s : Bs, rdT (s.flatMap escL ++ [34]) = s
  | [] => by simp [rdT]
  | c :: s => by
    rw [List.flatMap_cons, List.append_assoc]
    rcases escL_form c with ⟨e, h⟩ | ⟨e, _, h2, _⟩ | e <;> rw [e]
    · simp only [List.cons_append, List.nil_append]
      rw [rdT_two c _ (by rcases h with rfl | rfl <;> decide), rdT_esc s]
    · simp only [List.cons_append, List.nil_append]
      rw [rdT_plain c _ h2 (by simp), rdT_esc s]
    · simp only [hexL, List.cons_append, List.nil_append]
      rw [rdT_hex, digR_hex, rdT_esc s]
def readTR (s : Bs) : Bs := if s.length < 2 ∨ s.head? ≠ some 34 then s else rdT (s.drop 1)
theorem readTR_text (s : Bs) : readTR (textL s) = s := by
  unfold textL
  split
  · rename_i h
    unfold readTR
    rw [if_pos]
    right
    intro e
    cases s with
    | nil => simp at e
    | cons c s =>
      simp only [List.head?_cons, Option.some.injEq] at e
      subst e
      have := List.all_eq_true.1 h.2 34 List.mem_cons_self
      exact absurd this (by decide)
  · unfold readTR
    rw [if_neg (by simp)]
    exact rdT_esc s
def rdB : Bs → Bs
  | h :: l :: s => (digR h * 16 + digR l) :: rdB s
  | _ => []
theorem rdB_hex : ∀ s : Bs, rdB (s.flatMap hexL) = s
  | [] => rfl
  | c :: s => by
    rw [List.flatMap_cons]
    simp only [hexL, List.cons_append, List.nil_append, rdB, digR_hex, rdB_hex s]
theorem rdB_raw (s : Bs) : rdB (rawL s) = s := by
  unfold rawL
  split
  · rename_i h; rw [h]; rfl
  · exact rdB_hex s
/-- the last word of the list that it is -/
def lastW (p : Bs) (ws : List Bs) (k : Int) (z : Int) : Int := match ws with
  | [] => z
  | x :: l => lastW p l (k + 1) (if x = p then k else z)
theorem lastW_none : ∀ (ws : List Bs) (p : Bs) (k z : Int), (∀ x ∈ ws, x ≠ p) → lastW p ws k z = z
  | [], _, _, _, _ => rfl
  | x :: l, p, k, z, h => by
    rw [lastW, if_neg (h x List.mem_cons_self)]
    exact lastW_none l p _ z fun y hy => h y (List.mem_cons_of_mem _ hy)
theorem lastW_get : ∀ (ws : List Bs) (i : Nat) (k z : Int), i < ws.length → (∀ a b, a < ws.length → b < ws.length → ws.getD a [] = ws.getD b [] → a = b) → lastW (ws.getD i []) ws k z = k + i
  | [], i, _, _, h, _ => by simp at h
  | x :: l, 0, k, z, h, hd => by
    rw [lastW, if_pos (by simp), lastW_none]
    · simp
    · intro y hy e
      obtain ⟨j, hj, rfl⟩ := List.mem_iff_getElem.1 hy
      have := hd (j + 1) 0 (by simpa using hj) (by simp) (by
        rw [List.getD_cons_succ, List.getD_eq_getElem?_getD, List.getElem?_eq_getElem hj]; exact e)
      omega
  | x :: l, i + 1, k, z, h, hd => by
    rw [lastW, List.getD_cons_succ, lastW_get l i (k + 1) _ (by simpa using h) fun a b ha hb e => by
        have := hd (a + 1) (b + 1) (by simpa using ha) (by simpa using hb) (by simpa using e)
        omega]
    omega
def setF (w : Int → Int) (r : Req) (p : Bs) : Fd → Req
  | .T => { r with topic := readTR p }
  | .K => { r with key := readTR p }
  | .V => { r with value := readTR p }
  | .O => { r with off := readN w p }
  | .N => { r with num := readN w p }
  | .P => { r with pid := readN w p }
  | .S => { r with seq := readN w p }
def setFs (w : Int → Int) (r : Req) : List Fd → List Bs → Req
  | f :: fs, p :: ps => setFs w (setF w r p f) fs ps
  | _, _ => r
def readReq (w : Int → Int) (ps : List Bs) (r : Req) : Req := match ps with
  | [] => r
  | p :: rest => let op := lastW p opWords 1 r.op; setFs w { r with op := op } (fieldsOf op) rest
def hasConn (v : Int) : Bool := v = 0 || v = 1 || v = 2 || v = 3 || v = 6
/-- w32: how a number becomes a uint32 -/
def readTail (w w32 : Int → Int) (c : Cmd) (l : List Bs) : Cmd := match l with
  | [] => c
  | p :: ps =>
    if c.verb = 2 then { c with req := readReq w ps { c.req with id := w32 (readN w p) } }
    else if c.verb = 3 then { c with raw := rdB p }
    else if c.verb = 5 ∨ c.verb = 8 then { c with picks := (p :: ps).map (readN w) }
    else { c with n := readN w p }
def readR (w w32 : Int → Int) (line : Bs) : Cmd := match cutL [] false false line with
  | [] => { cmd0 with verb := -1 }
  | p :: ps =>
    let c : Cmd := { cmd0 with verb := lastW p verbWords 0 (-1) }
    match ps with
    | [] => c
    | q :: qs => if hasConn c.verb then readTail w w32 { c with conn := readN w q } qs else readTail w w32 c (q :: qs)
def parseR (w w32 : Int → Int) (line : Bs) : Option Cmd := if 4096 < line.length then none else if printL (readR w w32 line) = some line then some (readR w w32 line) else none

theorem setF_write (w : Int → Int) (hw : Wr w) (r q : Req) (f : Fd) (hi : ∀ x ∈ [r.off, r.num, r.pid, r.seq], -9223372036854775808 ≤ x ∧ x ≤ 9223372036854775807) :
    setF w q (writeF r f) f = (match f with
      | .T => { q with topic := r.topic } | .K => { q with key := r.key } | .V => { q with value := r.value } | .O => { q with off := r.off } | .N => { q with num := r.num } | .P => { q with pid := r.pid } | .S => { q with seq := r.seq }) := by
  have hr : ∀ x ∈ [r.off, r.num, r.pid, r.seq], readN w (itoa x) = x := fun x hx => readN_itoa w hw x (hi x hx).1 (hi x hx).2
  cases f <;> simp only [setF, writeF, readTR_text]
  · rw [hr _ (by simp)]
  · rw [hr _ (by simp)]
  · rw [hr _ (by simp)]
  · rw [hr _ (by simp)]
theorem setFs_write (w : Int → Int) (hw : Wr w) (r : Req) (h : okReq r = true) (hi : ∀ x ∈ [r.off, r.num, r.pid, r.seq], -9223372036854775808 ≤ x ∧ x ≤ 9223372036854775807) :
    setFs w { req0 with id := r.id, op := r.op } (fieldsOf r.op) ((fieldsOf r.op).map (writeF r)) = r := by
  obtain ⟨id, op, topic, key, value, off, num, pid, seq⟩ := r
  simp only [okReq, Bool.and_eq_true, decide_eq_true_eq, Bool.or_eq_true] at h
  obtain ⟨⟨⟨⟨⟨⟨⟨⟨⟨⟨⟨⟨⟨⟨⟨h1, h2⟩, _⟩, _⟩, _⟩, hT⟩, hK⟩, hV⟩, _⟩, _⟩, _⟩, _⟩, hO⟩, hN⟩, hP⟩, hS⟩ := h
  rcases int_cases15 op ⟨h1, h2⟩ with rfl | rfl | rfl | rfl | rfl | rfl | rfl | rfl | rfl | rfl | rfl | rfl | rfl | rfl | rfl
  all_goals simp [has, fieldsOf, fieldsN] at hT hK hV hO hN hP hS
  all_goals simp only [fieldsOf, fieldsN, Int.reduceToNat, List.map_cons, List.map_nil, setFs, setF_write w hw _ _ _ hi, req0]
  all_goals simp_all
theorem map_readN (w : Int → Int) (hw : Wr w) : ∀ l : List Int, (∀ x ∈ l, -9223372036854775808 ≤ x ∧ x ≤ 9223372036854775807) → (l.map itoa).map (readN w) = l
  | [], _ => rfl
  | n :: l, h => by
    rw [List.map_cons, List.map_cons, readN_itoa w hw n (h n List.mem_cons_self).1 (h n List.mem_cons_self).2, map_readN w hw l fun x hx => h x (List.mem_cons_of_mem _ hx)]
theorem read_print (w w32 : Int → Int) (hw : Wr w) (hw32 : ∀ x, 0 ≤ x → x ≤ 4294967295 → w32 x = x) (c : Cmd) (line : Bs) (hi : ints c) (h : printL c = some line) : readR w w32 line = c := by
  unfold printL at h
  split at h
  · rename_i hf
    injection h with h
    subst h
    have hfc := hf.1
    obtain ⟨hv, hwi, _, _⟩ := fine_parts hfc
    obtain ⟨hid, hi⟩ := hi
    have hn := hi c.n (by simp)
    have hcn := hi c.conn (by simp)
    have hp := map_readN w hw c.picks fun x hx => hi x (List.mem_append_right _ hx)
    have hq : ∀ x ∈ [c.req.off, c.req.num, c.req.pid, c.req.seq], -9223372036854775808 ≤ x ∧ x ≤ 9223372036854775807 := fun x hx => hi x (by simp at hx ⊢; rcases hx with rfl | rfl | rfl | rfl <;> simp)
    have hb := readN_itoa w hw c.conn hcn.1 hcn.2
    have hnn := readN_itoa w hw c.n hn.1 hn.2
    have hcut := cut_line c hv
    have hvw : lastW (verbWords.getD c.verb.toNat []) verbWords 0 (-1) = c.verb := by
      rw [lastW_get verbWords c.verb.toNat 0 (-1) (by show _ < 11; omega) fun a b ha hb e => congrArg Fin.val (verbWords_inj ⟨a, ha⟩ ⟨b, hb⟩ e)]
      omega
    unfold readR
    rw [hcut]
    simp only [hvw]
    simp only [within, Bool.and_eq_true, decide_eq_true_eq, Bool.or_eq_true] at hwi
    obtain ⟨⟨⟨⟨⟨lo, hi'⟩, c0⟩, c9⟩, hl⟩, hx⟩ := hwi
    clear hcut hvw hf hfc
    obtain ⟨verb, conn, req, raw, n, picks⟩ := c
    simp only at *
    rcases int_cases11 verb hv with rfl | rfl | rfl | rfl | rfl | rfl | rfl | rfl | rfl | rfl | rfl
    · simp [loN, hiN, labels] at lo hi' hl hx
      obtain ⟨⟨rfl, rfl⟩, rfl⟩ := hx
      obtain rfl : n = 0 := by omega
      simp [readTail, writeV, hb, cmd0, hasConn]
    · simp [loN, hiN, labels] at lo hi' hl hx
      obtain ⟨⟨rfl, rfl⟩, rfl⟩ := hx
      obtain rfl : n = 0 := by omega
      simp [readTail, writeV, hb, cmd0, hasConn]
    · simp [loN, hiN, labels] at lo hi' hl hx
      obtain ⟨⟨ho, rfl⟩, rfl⟩ := hx
      obtain rfl : n = 0 := by omega
      have hop : 1 ≤ req.op ∧ req.op ≤ 15 := by
        simp only [okReq, Bool.and_eq_true, decide_eq_true_eq] at ho
        omega
      have hr := setFs_write w hw req ho hq
      have hid' := readN_itoa w hw req.id (by omega) (by omega)
      have how : ∀ z, lastW (opL req.op) opWords 1 z = req.op := fun z => by
        unfold opL
        rw [if_pos hop, lastW_get opWords (req.op.toNat - 1) 1 z (by show _ < 15; omega) fun a b ha hb e => congrArg Fin.val (opWords_inj ⟨a, ha⟩ ⟨b, hb⟩ e)]
        omega
      simp only [writeV, Int.reduceToNat, hasConn, readTail, readReq, how, hid', hb, cmd0, hw32 _ hid.1 hid.2]
      simp only [decide_true, Bool.or_true, Bool.true_or, if_true]
      rw [show ({ req0 with id := req.id, op := req.op } : Req) = ⟨req.id, req.op, [], [], [], 0, 0, 0, 0⟩ from rfl] at hr
      simp only [req0]
      rw [hr]
    · simp [loN, hiN, labels] at lo hi' hl hx
      obtain ⟨rfl, rfl⟩ := hx
      obtain rfl : n = 0 := by omega
      simp [readTail, writeV, hb, cmd0, hasConn, rdB_raw]
    · simp [loN, hiN, labels] at lo hi' hl hx
      obtain ⟨⟨rfl, rfl⟩, rfl⟩ := hx
      subst hl
      simp [readTail, writeV, hnn, cmd0, hasConn]
    · simp [loN, hiN, labels] at lo hi' hl hx
      obtain ⟨rfl, rfl⟩ := hx
      obtain rfl : n = 0 := by omega
      subst hl
      cases picks with
      | nil => simp [writeV, cmd0]
      | cons x l =>
        rw [List.map_cons] at hp
        simp [readTail, writeV, cmd0, hasConn]
        simpa using hp
    · simp [loN, hiN, labels] at lo hi' hl hx
      obtain ⟨⟨rfl, rfl⟩, rfl⟩ := hx
      simp [readTail, writeV, hb, hnn, cmd0, hasConn]
    · simp [loN, hiN, labels] at lo hi' hl hx
      obtain ⟨⟨rfl, rfl⟩, rfl⟩ := hx
      subst hl
      simp [readTail, writeV, hnn, cmd0, hasConn]
    · simp [loN, hiN, labels] at lo hi' hl hx
      obtain ⟨rfl, rfl⟩ := hx
      obtain rfl : n = 0 := by omega
      subst hl
      cases picks with
      | nil => simp [writeV, cmd0]
      | cons x l =>
        rw [List.map_cons] at hp
        simp [readTail, writeV, cmd0, hasConn]
        simpa using hp
    · simp [loN, hiN, labels] at lo hi' hl hx
      obtain ⟨⟨rfl, rfl⟩, rfl⟩ := hx
      obtain rfl : n = 0 := by omega
      subst hl
      simp [writeV, cmd0]
    · simp [loN, hiN, labels] at lo hi' hl hx
      obtain ⟨⟨rfl, rfl⟩, rfl⟩ := hx
      obtain rfl : n = 0 := by omega
      subst hl
      simp [writeV, cmd0]
  · cases h

/-! ### both readers agree -/
def J64 (x : Int) : Prop := -9223372036854775808 ≤ x ∧ x ≤ 9223372036854775807
def intsR (r : Req) : Prop := (0 ≤ r.id ∧ r.id ≤ 4294967295) ∧ J64 r.off ∧ J64 r.num ∧ J64 r.pid ∧ J64 r.seq
theorem ints_of {c : Cmd} (h1 : J64 c.n) (h2 : J64 c.conn) (h3 : intsR c.req) (h4 : ∀ x ∈ c.picks, J64 x) : ints c := by
  refine ⟨h3.1, fun x hx => ?_⟩
  simp only [List.cons_append, List.nil_append, List.mem_cons] at hx
  rcases hx with rfl | rfl | rfl | rfl | rfl | rfl | hx
  · exact h1
  · exact h2
  · exact h3.2.1
  · exact h3.2.2.1
  · exact h3.2.2.2.1
  · exact h3.2.2.2.2
  · exact h4 x hx
theorem i64_0 : J64 0 := ⟨by omega, by omega⟩
theorem intsR_0 : intsR req0 := ⟨⟨by decide, by decide⟩, i64_0, i64_0, i64_0, i64_0⟩
theorem numP_i64 {p : Bs} {n : Int} (h : numP p = some n) : J64 n := by
  unfold numP at h
  split at h
  · rename_i v hv
    injection h with h
    subst h
    exact Go.Lib.atoiAll_bounds hv
  · cases h
theorem labelP_i64 {p : Bs} {n : Int} (h : labelP p = some n) : J64 n := by
  unfold labelP at h
  obtain ⟨m, hm, h⟩ := Option.bind_eq_some_iff.1 h
  split at h
  · cases h
  · injection h with h; subst h; exact numP_i64 hm
theorem readF_i64 {r r' : Req} {p : Bs} {f : Fd} (hr : intsR r) (h : readF r p f = some r') : intsR r' := by
  obtain ⟨a, b, c, d, e⟩ := hr
  cases f <;> simp only [readF, Option.map_eq_some_iff] at h <;> obtain ⟨x, hx, rfl⟩ := h
  · exact ⟨a, b, c, d, e⟩
  · exact ⟨a, b, c, d, e⟩
  · exact ⟨a, b, c, d, e⟩
  · exact ⟨a, numP_i64 hx, c, d, e⟩
  · exact ⟨a, b, numP_i64 hx, d, e⟩
  · exact ⟨a, b, c, numP_i64 hx, e⟩
  · exact ⟨a, b, c, d, numP_i64 hx⟩
theorem readFs_i64 : ∀ (fs : List Fd) (ps : List Bs) (r : Req) (x : Req × List Bs), intsR r → readFs r fs ps = some x → intsR x.1
  | [], ps, r, x, hr, h => by simp only [readFs, Option.some.injEq] at h; subst h; exact hr
  | f :: fs, [], r, x, hr, h => by simp [readFs] at h
  | f :: fs, p :: ps, r, x, hr, h => by
    simp only [readFs] at h
    obtain ⟨r', h1, h2⟩ := Option.bind_eq_some_iff.1 h
    exact readFs_i64 fs ps r' x (readF_i64 hr h1) h2
theorem requestP_i64 {ps : List Bs} {x : Req × List Bs} (h : requestP ps = some x) : intsR x.1 := by
  unfold requestP at h
  split at h
  · obtain ⟨id, h1, h⟩ := Option.bind_eq_some_iff.1 h
    split at h
    · cases h
    · obtain ⟨op, h2, h⟩ := Option.bind_eq_some_iff.1 h
      exact readFs_i64 _ _ _ x ⟨by constructor <;> (simp only; omega), i64_0, i64_0, i64_0, i64_0⟩ h
  · cases h
theorem picksP_i64 : ∀ (ps : List Bs) (l : List Int), picksP ps = some l → ∀ x ∈ l, J64 x
  | [], l, h, x, hx => by simp only [picksP, Option.some.injEq] at h; subst h; cases hx
  | p :: ps, l, h, x, hx => by
    simp only [picksP] at h
    obtain ⟨n, h1, h⟩ := Option.bind_eq_some_iff.1 h
    obtain ⟨l', h2, rfl⟩ := Option.map_eq_some_iff.1 h
    rcases List.mem_cons.1 hx with rfl | hx
    · exact numP_i64 h1
    · exact picksP_i64 ps l' h2 x hx
theorem verbP_ints {v : Nat} {ps : List Bs} {x : Cmd × List Bs} (h : verbP v ps = some x) : ints x.1 := by
  have no : ∀ x ∈ ([] : List Int), J64 x := fun x hx => by cases hx
  unfold verbP at h
  split at h
  · split at h
    · obtain ⟨n, h1, rfl⟩ := Option.map_eq_some_iff.1 h
      exact ints_of i64_0 (labelP_i64 h1) intsR_0 no
    · cases h
  · split at h
    · obtain ⟨n, h1, rfl⟩ := Option.map_eq_some_iff.1 h
      exact ints_of i64_0 (labelP_i64 h1) intsR_0 no
    · cases h
  · split at h
    · obtain ⟨n, h1, h⟩ := Option.bind_eq_some_iff.1 h
      obtain ⟨y, h2, rfl⟩ := Option.map_eq_some_iff.1 h
      exact ints_of i64_0 (labelP_i64 h1) (requestP_i64 h2) no
    · cases h
  · split at h
    · obtain ⟨n, h1, h⟩ := Option.bind_eq_some_iff.1 h
      obtain ⟨y, h2, rfl⟩ := Option.map_eq_some_iff.1 h
      exact ints_of i64_0 (labelP_i64 h1) intsR_0 no
    · cases h
  · split at h
    · obtain ⟨n, h1, rfl⟩ := Option.map_eq_some_iff.1 h
      exact ints_of (numP_i64 h1) i64_0 intsR_0 no
    · cases h
  · split at h
    · obtain ⟨n, h1, rfl⟩ := Option.map_eq_some_iff.1 h
      exact ints_of (numP_i64 h1) i64_0 intsR_0 no
    · cases h
  · obtain ⟨l, h1, rfl⟩ := Option.map_eq_some_iff.1 h
    exact ints_of i64_0 i64_0 intsR_0 (picksP_i64 _ _ h1)
  · obtain ⟨l, h1, rfl⟩ := Option.map_eq_some_iff.1 h
    exact ints_of i64_0 i64_0 intsR_0 (picksP_i64 _ _ h1)
  · split at h
    · obtain ⟨n, h1, h⟩ := Option.bind_eq_some_iff.1 h
      obtain ⟨y, h2, rfl⟩ := Option.map_eq_some_iff.1 h
      exact ints_of (numP_i64 h2) (labelP_i64 h1) intsR_0 no
    · cases h
  · injection h with h; subst h
    exact ints_of i64_0 i64_0 intsR_0 no
theorem commandP_ints {ps : List Bs} {c : Cmd} (h : commandP ps = some c) : ints c := by
  unfold commandP at h
  split at h
  · obtain ⟨v, h1, h⟩ := Option.bind_eq_some_iff.1 h
    obtain ⟨x, h2, h⟩ := Option.bind_eq_some_iff.1 h
    split at h
    · injection h with h; subst h; exact verbP_ints h2
    · cases h
  · cases h
theorem parseL_some {line : Bs} {c : Cmd} (h : parseL line = some c) : printL c = some line ∧ ints c ∧ line.length ≤ 4096 := by
  unfold parseL at h
  split at h
  · cases h
  · obtain ⟨d, h1, h⟩ := Option.bind_eq_some_iff.1 h
    split at h
    · injection h with h; subst h; exact ⟨by assumption, commandP_ints h1, by omega⟩
    · cases h

def Wrs (w : Int → Int) : Prop := ∀ x, J64 (w x)
theorem rdN_i64 (w : Int → Int) (hs : Wrs w) : ∀ (s : Bs) (n : Int), J64 n → J64 (rdN w n s)
  | [], _, h => h
  | _ :: s, _, _ => rdN_i64 w hs s _ (hs _)
theorem readN_i64 (w : Int → Int) (hs : Wrs w) (s : Bs) : J64 (readN w s) := by
  unfold readN
  split
  · exact rdN_i64 w hs _ _ i64_0
  · exact hs _
theorem setF_i64 (w : Int → Int) (hs : Wrs w) {r : Req} (p : Bs) (f : Fd) (h : intsR r) : intsR (setF w r p f) := by
  obtain ⟨a, b, c, d, e⟩ := h
  cases f
  · exact ⟨a, b, c, d, e⟩
  · exact ⟨a, b, c, d, e⟩
  · exact ⟨a, b, c, d, e⟩
  · exact ⟨a, readN_i64 w hs p, c, d, e⟩
  · exact ⟨a, b, readN_i64 w hs p, d, e⟩
  · exact ⟨a, b, c, readN_i64 w hs p, e⟩
  · exact ⟨a, b, c, d, readN_i64 w hs p⟩
theorem setFs_i64 (w : Int → Int) (hs : Wrs w) : ∀ (fs : List Fd) (ps : List Bs) (r : Req), intsR r → intsR (setFs w r fs ps)
  | [], _, r, h => by simpa [setFs] using h
  | f :: fs, [], r, h => by simpa [setFs] using h
  | f :: fs, p :: ps, r, h => setFs_i64 w hs fs ps _ (setF_i64 w hs p f h)
theorem readReq_i64 (w : Int → Int) (hs : Wrs w) (ps : List Bs) (r : Req) (h : intsR r) : intsR (readReq w ps r) := by
  unfold readReq
  split
  · exact h
  · exact setFs_i64 w hs _ _ _ h
theorem readTail_ints (w w32 : Int → Int) (hs : Wrs w) (h32 : ∀ x, 0 ≤ w32 x ∧ w32 x ≤ 4294967295) (c : Cmd) (l : List Bs) (h1 : J64 c.n) (h2 : J64 c.conn) (h3 : intsR c.req) (h4 : ∀ x ∈ c.picks, J64 x) : ints (readTail w w32 c l) := by
  unfold readTail
  split
  · exact ints_of h1 h2 h3 h4
  · split
    · exact ints_of h1 h2 (readReq_i64 w hs _ _ ⟨h32 _, h3.2⟩) h4
    · split
      · exact ints_of h1 h2 h3 h4
      · split
        · exact ints_of h1 h2 h3 fun x hx => by
            obtain ⟨p, _, rfl⟩ := List.mem_map.1 hx
            exact readN_i64 w hs p
        · exact ints_of (readN_i64 w hs _) h2 h3 h4
theorem readR_ints (w w32 : Int → Int) (hs : Wrs w) (h32 : ∀ x, 0 ≤ w32 x ∧ w32 x ≤ 4294967295) (line : Bs) : ints (readR w w32 line) := by
  have no : ∀ x ∈ ([] : List Int), J64 x := fun x hx => by cases hx
  unfold readR
  split
  · exact ints_of i64_0 i64_0 intsR_0 no
  · split
    · exact ints_of i64_0 i64_0 intsR_0 no
    · dsimp only
      split
      · exact readTail_ints w w32 hs h32 _ _ i64_0 (readN_i64 w hs _) intsR_0 no
      · exact readTail_ints w w32 hs h32 _ _ i64_0 i64_0 intsR_0 no
/-- the program's reader and the document's agree on every line -/
theorem parse_same (w w32 : Int → Int) (hw : Wr w) (hs : Wrs w) (hw32 : ∀ x, 0 ≤ x → x ≤ 4294967295 → w32 x = x) (h32 : ∀ x, 0 ≤ w32 x ∧ w32 x ≤ 4294967295) (line : Bs) :
    parseL line = parseR w w32 line := by
  cases h : parseL line with
  | some c =>
    obtain ⟨h1, h2, h3⟩ := parseL_some h
    have := read_print w w32 hw hw32 c line h2 h1
    unfold parseR
    rw [if_neg (by omega), this, if_pos h1]
  | none =>
    unfold parseR
    split
    · rfl
    · split
      · rename_i h1
        have := parse_print _ line (readR_ints w w32 hs h32 line) h1
        rw [this] at h; cases h
      · rfl
end Go.Proofs.YtepalbldleegiaaGreatDoor.sh
