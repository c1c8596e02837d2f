/-
  Plain law of a command's line: it is read back as the command, by the program's reader and by the document's.
  Conditions: numbers are ints where it is said.
-/
import Derived.Test.YtepalbldleegiaaGreatDoorShb
namespace Go.Proofs.YtepalbldleegiaaGreatDoor.sh
open Go.Lib (itoa decDigits atoiAll NumEnd)

structure Req where
  id : Int
  op : Int
  topic : Bs
  key : Bs
  value : Bs
  off : Int
  num : Int
  pid : Int
  seq : Int
deriving DecidableEq
structure Cmd where
  verb : Int
  conn : Int
  req : Req
  raw : Bs
  n : Int
  picks : List Int
deriving DecidableEq
def req0 : Req := ⟨0, 0, [], [], [], 0, 0, 0, 0⟩
def cmd0 : Cmd := ⟨0, 0, req0, [], 0, []⟩

inductive Fd where
  | T | K | V | O | N | P | S
deriving DecidableEq
def fieldsN : Nat → List Fd
  | 2 => [.T, .N]
  | 3 => [.T]
  | 4 => [.K]
  | 5 => [.T, .K, .V, .P, .S]
  | 6 => [.T, .K, .P, .S]
  | 7 => [.T, .K]
  | 8 => [.T, .O]
  | 9 => [.T, .K]
  | 10 => [.T, .O]
  | 11 => [.N]
  | 12 => [.K]
  | 13 => [.T, .K, .O, .N]
  | 14 => [.T, .K]
  | 15 => [.T]
  | _ => []
def fieldsOf (op : Int) : List Fd := fieldsN op.toNat
def writeF (r : Req) : Fd → Bs
  | .T => textL r.topic
  | .K => textL r.key
  | .V => textL r.value
  | .O => itoa r.off
  | .N => itoa r.num
  | .P => itoa r.pid
  | .S => itoa r.seq
/-- CheckRequest -/
def has (op : Int) (f : Fd) : Bool := (fieldsOf op).contains f
def okReq (r : Req) : Bool :=
  decide (1 ≤ r.op) && decide (r.op ≤ 15) && decide (r.topic.length ≤ 24) && decide (r.key.length ≤ 64) && decide (r.value.length ≤ 1024) &&
  (has r.op .T || decide (r.topic = [])) && (has r.op .K || decide (r.key = [])) && (has r.op .V || decide (r.value = [])) &&
  decide (0 ≤ r.off) && decide (0 ≤ r.num) && decide (0 ≤ r.pid) && decide (0 ≤ r.seq) &&
  (has r.op .O || decide (r.off = 0)) && (has r.op .N || decide (r.num = 0)) && (has r.op .P || decide (r.pid = 0)) && (has r.op .S || decide (r.seq = 0))
def verbWords : List Bs := [[111,112,101,110],[115,104,117,116],[115,97,121],[114,97,119],[116,105,99,107],[115,116,101,112,115],[116,97,107,101],[102,117,115,101],[99,114,97,115,104],[99,104,101,99,107],[115,116,97,116,101]]
def rawL (s : Bs) : Bs := if s = [] then [45] else s.flatMap hexL
def writeV (c : Cmd) : List Bs :=
  match c.verb.toNat with
  | 0 => [itoa c.conn]
  | 1 => [itoa c.conn]
  | 2 => itoa c.conn :: itoa c.req.id :: opL c.req.op :: (fieldsOf c.req.op).map (writeF c.req)
  | 3 => [itoa c.conn, rawL c.raw]
  | 4 => [itoa c.n]
  | 5 => c.picks.map itoa
  | 6 => [itoa c.conn, itoa c.n]
  | 7 => [itoa c.n]
  | 8 => c.picks.map itoa
  | _ => []
def lineL (c : Cmd) : Bs := joinB (verbWords.getD c.verb.toNat [] :: writeV c)
def labels (v : Int) : Bool := v = 0 || v = 1 || v = 2 || v = 3 || v = 6
def loN (v : Int) : Int := if v = 7 then -1 else 0
def hiN (v : Int) : Int := if v = 4 then 1125899906842624 else if v = 6 ∨ v = 7 then 1073741824 else 0
def within (c : Cmd) : Bool :=
  decide (loN c.verb ≤ c.n) && decide (c.n ≤ hiN c.verb) && decide (0 ≤ c.conn) && decide (c.conn ≤ 999) && (labels c.verb || decide (c.conn = 0)) &&
  (if c.verb = 2 then okReq c.req && decide (c.raw = []) && decide (c.picks = [])
   else decide (c.req = req0) && (decide (c.verb = 3) || decide (c.raw = [])) && (decide (c.verb = 5) || decide (c.verb = 8) || decide (c.picks = [])))
/-- may the command be, its line's length aside? -/
def fine (c : Cmd) : Bool := decide (0 ≤ c.verb) && decide (c.verb ≤ 10) && within c && decide (c.raw.length ≤ 4096) && decide (c.picks.length ≤ 4096)
def printL (c : Cmd) : Option Bs := if fine c = true ∧ (lineL c).length ≤ 4096 then some (lineL c) else none

/-! ### the program's reader -/
def numP (p : Bs) : Option Int := match atoiAll p with
  | .ok v => some v
  | _ => none
def labelP (p : Bs) : Option Int := (numP p).bind fun n => if n < 0 ∨ 999 < n then none else some n
def readF (r : Req) (p : Bs) : Fd → Option Req
  | .T => (readT p).map fun s => { r with topic := s }
  | .K => (readT p).map fun s => { r with key := s }
  | .V => (readT p).map fun s => { r with value := s }
  | .O => (numP p).map fun n => { r with off := n }
  | .N => (numP p).map fun n => { r with num := n }
  | .P => (numP p).map fun n => { r with pid := n }
  | .S => (numP p).map fun n => { r with seq := n }
/-- fields read one by one; what is left of the parts -/
def readFs (r : Req) : List Fd → List Bs → Option (Req × List Bs)
  | [], ps => some (r, ps)
  | _ :: _, [] => none
  | f :: fs, p :: ps => (readF r p f).bind fun r' => readFs r' fs ps
def findW (w : Bs) (ws : List Bs) (k : Nat) : Option Nat := match ws with
  | [] => none
  | x :: l => if x = w then some k else findW w l (k + 1)
def requestP (ps : List Bs) : Option (Req × List Bs) := match ps with
  | i :: w :: rest => (numP i).bind fun id => if id < 0 ∨ 4294967295 < id then none else (findW w opWords 1).bind fun op => readFs { req0 with id := id, op := op } (fieldsOf op) rest
  | _ => none
def bytesP (p : Bs) : Option Bs := if p = [45] then some [] else bytesL p
def picksP : List Bs → Option (List Int)
  | [] => some []
  | p :: ps => (numP p).bind fun n => (picksP ps).map (n :: ·)
/-- what stands behind a verb: the command, and the parts that are left -/
def verbP (v : Nat) (ps : List Bs) : Option (Cmd × List Bs) :=
  match v with
  | 0 | 1 => match ps with
    | l :: r => (labelP l).map fun n => ({ cmd0 with verb := v, conn := n }, r)
    | [] => none
  | 2 => match ps with
    | l :: r => (labelP l).bind fun n => (requestP r).map fun x => ({ cmd0 with verb := 2, conn := n, req := x.1 }, x.2)
    | [] => none
  | 3 => match ps with
    | l :: b :: r => (labelP l).bind fun n => (bytesP b).map fun x => ({ cmd0 with verb := 3, conn := n, raw := x }, r)
    | _ => none
  | 4 | 7 => match ps with
    | l :: r => (numP l).map fun n => ({ cmd0 with verb := v, n := n }, r)
    | [] => none
  | 5 | 8 => (picksP ps).map fun l => ({ cmd0 with verb := v, picks := l }, [])
  | 6 => match ps with
    | l :: b :: r => (labelP l).bind fun n => (numP b).map fun x => ({ cmd0 with verb := 6, conn := n, n := x }, r)
    | _ => none
  | _ => some ({ cmd0 with verb := v }, ps)
def commandP (ps : List Bs) : Option Cmd := match ps with
  | w :: r => (findW w verbWords 0).bind fun v => (verbP v r).bind fun x => if x.2 = [] then some x.1 else none
  | [] => none
def parseL (line : Bs) : Option Cmd := if 4096 < line.length then none else (commandP (cutL [] false false line)).bind fun c => if printL c = some line then some c else none

/-- what Go's types say of a command's numbers -/
def ints (c : Cmd) : Prop := (0 ≤ c.req.id ∧ c.req.id ≤ 4294967295) ∧ (∀ x ∈ [c.n, c.conn, c.req.off, c.req.num, c.req.pid, c.req.seq] ++ c.picks, -9223372036854775808 ≤ x ∧ x ≤ 9223372036854775807)

theorem numP_itoa (n : Int) (h : -9223372036854775808 ≤ n ∧ n ≤ 9223372036854775807) : numP (itoa n) = some n := by
  unfold numP; rw [atoi_itoa n h.1 h.2]
theorem labelP_itoa (n : Int) (h0 : 0 ≤ n) (h1 : n ≤ 999) : labelP (itoa n) = some n := by
  unfold labelP; rw [numP_itoa n (by omega)]
  simp only [Option.bind_some]
  rw [if_neg (by omega)]
theorem picksP_itoa : ∀ l : List Int, (∀ x ∈ l, -9223372036854775808 ≤ x ∧ x ≤ 9223372036854775807) → picksP (l.map itoa) = some l
  | [], _ => rfl
  | n :: l, h => by
    rw [List.map_cons, picksP, numP_itoa n (h n List.mem_cons_self), Option.bind_some, picksP_itoa l fun x hx => h x (List.mem_cons_of_mem _ hx)]
    rfl
theorem bytesP_raw (s : Bs) : bytesP (rawL s) = some s := by
  unfold rawL
  by_cases h : s = []
  · rw [if_pos h, h]; rfl
  · rw [if_neg h]
    unfold bytesP
    rw [if_neg, bytes_hex]
    cases s with
    | nil => exact (h rfl).elim
    | cons c s => intro e; simp [hexL] at e
theorem findW_get : ∀ (ws : List Bs) (k : Nat) (i : Nat), i < ws.length → (∀ a b, a < ws.length → b < ws.length → ws.getD a [] = ws.getD b [] → a = b) → findW (ws.getD i []) ws k = some (k + i)
  | [], _, i, h, _ => by simp at h
  | x :: l, k, 0, _, _ => by simp [findW]
  | x :: l, k, i + 1, h, hd => by
    simp only [findW]
    rw [if_neg]
    · have := findW_get l (k + 1) i (by simpa using h) fun a b ha hb e => by
        have := hd (a + 1) (b + 1) (by simpa using ha) (by simpa using hb) (by simpa using e)
        omega
      simp only [List.getD_cons_succ]
      rw [this]; congr 1; omega
    · intro e
      have := hd 0 (i + 1) (by simp) h (by simpa using e)
      omega
theorem findW_op (op : Int) (h : 1 ≤ op ∧ op ≤ 15) : findW (opL op) opWords 1 = some op.toNat := by
  unfold opL
  rw [if_pos h, findW_get opWords 1 (op.toNat - 1) (by show _ < 15; omega)]
  · congr 1; omega
  · intro a b ha hb e
    exact congrArg Fin.val (opWords_inj ⟨a, ha⟩ ⟨b, hb⟩ e)
theorem verbWords_inj : ∀ i j : Fin 11, verbWords.getD i.val [] = verbWords.getD j.val [] → i = j := by decide
theorem findW_verb (v : Nat) (h : v < 11) : findW (verbWords.getD v []) verbWords 0 = some v := by
  rw [findW_get verbWords 0 v h]
  · simp
  · intro a b ha hb e
    exact congrArg Fin.val (verbWords_inj ⟨a, ha⟩ ⟨b, hb⟩ e)
theorem int_cases15 (op : Int) (h : 1 ≤ op ∧ op ≤ 15) : op = 1 ∨ op = 2 ∨ op = 3 ∨ op = 4 ∨ op = 5 ∨ op = 6 ∨ op = 7 ∨ op = 8 ∨ op = 9 ∨ op = 10 ∨ op = 11 ∨ op = 12 ∨ op = 13 ∨ op = 14 ∨ op = 15 := by omega
theorem readF_write (r q : Req) (f : Fd) (hi : ∀ x ∈ [r.off, r.num, r.pid, r.seq], -9223372036854775808 ≤ x ∧ x ≤ 9223372036854775807) :
    readF q (writeF r f) f = some (match f with
      | .T => { q with topic := r.topic } | .K => { q with key := r.key } | .V => { q with value := r.value } | .O => { q with off := r.off } | .N => { q with num := r.num } | .P => { q with pid := r.pid } | .S => { q with seq := r.seq }) := by
  cases f <;> simp only [readF, writeF, readT_text, Option.map_some]
  · rw [numP_itoa _ (hi _ (by simp))]; rfl
  · rw [numP_itoa _ (hi _ (by simp))]; rfl
  · rw [numP_itoa _ (hi _ (by simp))]; rfl
  · rw [numP_itoa _ (hi _ (by simp))]; rfl
theorem readFs_write (r : Req) (h : okReq r = true) (hi : ∀ x ∈ [r.off, r.num, r.pid, r.seq], -9223372036854775808 ≤ x ∧ x ≤ 9223372036854775807) :
    readFs { req0 with id := r.id, op := r.op } (fieldsOf r.op) ((fieldsOf r.op).map (writeF r)) = some (r, []) := by
  obtain ⟨id, op, topic, key, value, off, num, pid, seq⟩ := r
  simp only [okReq, Bool.and_eq_true, decide_eq_true_eq, Bool.or_eq_true] at h
  obtain ⟨⟨⟨⟨⟨⟨⟨⟨⟨⟨⟨⟨⟨⟨⟨h1, h2⟩, _⟩, _⟩, _⟩, hT⟩, hK⟩, hV⟩, _⟩, _⟩, _⟩, _⟩, hO⟩, hN⟩, hP⟩, hS⟩ := h
  rcases int_cases15 op ⟨h1, h2⟩ with rfl | rfl | rfl | rfl | rfl | rfl | rfl | rfl | rfl | rfl | rfl | rfl | rfl | rfl | rfl
  all_goals simp [has, fieldsOf, fieldsN] at hT hK hV hO hN hP hS
  all_goals simp only [fieldsOf, fieldsN, Int.reduceToNat, List.map_cons, List.map_nil, readFs, readF_write _ _ _ hi, Option.bind_some, req0]
  all_goals simp_all
theorem closed_chars {p : Bs} (h : chars p) : closed p := closed_of_vis _ h
theorem closed_raw (s : Bs) : closed (rawL s) := by
  unfold rawL
  split
  · exact run_plain _ (by decide)
  · refine run_plain _ fun c hc => ?_
    obtain ⟨d, _, hd⟩ := List.mem_flatMap.1 hc
    have hh : ∀ a : Nat, a < 16 → hexd a ≠ 34 ∧ hexd a ≠ 32 := by
      intro a ha
      have : ∀ a : Fin 16, hexd a.val ≠ 34 ∧ hexd a.val ≠ 32 := by decide
      exact this ⟨a, ha⟩
    simp only [hexL, List.mem_cons, List.not_mem_nil, or_false] at hd
    rcases hd with rfl | rfl
    · exact hh _ (hex_lt d).1
    · exact hh _ (hex_lt d).2
theorem closed_field (r : Req) (f : Fd) : closed (writeF r f) := by
  cases f <;> first | exact closed_text _ | exact closed_itoa _
theorem closed_parts (c : Cmd) : ∀ p ∈ writeV c, closed p := by
  intro p hp
  unfold writeV at hp
  split at hp <;> simp only [List.mem_cons, List.not_mem_nil, or_false, List.mem_map] at hp
  · subst hp; exact closed_itoa _
  · subst hp; exact closed_itoa _
  · rcases hp with rfl | rfl | rfl | ⟨f, _, rfl⟩
    · exact closed_itoa _
    · exact closed_itoa _
    · exact closed_chars (chars_op _)
    · exact closed_field _ _
  · rcases hp with rfl | rfl
    · exact closed_itoa _
    · exact closed_raw _
  · subst hp; exact closed_itoa _
  · obtain ⟨x, _, rfl⟩ := hp; exact closed_itoa _
  · rcases hp with rfl | rfl <;> exact closed_itoa _
  · subst hp; exact closed_itoa _
  · obtain ⟨x, _, rfl⟩ := hp; exact closed_itoa _
theorem closed_verb : ∀ v : Fin 11, closed (verbWords.getD v.val []) := by unfold closed; decide
theorem cut_line (c : Cmd) (h : 0 ≤ c.verb ∧ c.verb ≤ 10) : cutL [] false false (lineL c) = verbWords.getD c.verb.toNat [] :: writeV c :=
  cutL_join _ (closed_parts c) _ (closed_verb ⟨c.verb.toNat, by omega⟩)
theorem fine_parts {c : Cmd} (h : fine c = true) : (0 ≤ c.verb ∧ c.verb ≤ 10) ∧ within c = true ∧ c.raw.length ≤ 4096 ∧ c.picks.length ≤ 4096 := by
  simp only [fine, Bool.and_eq_true, decide_eq_true_eq] at h
  exact ⟨⟨h.1.1.1.1, h.1.1.1.2⟩, h.1.1.2, h.1.2, h.2⟩
theorem int_cases11 (v : Int) (h : 0 ≤ v ∧ v ≤ 10) : v = 0 ∨ v = 1 ∨ v = 2 ∨ v = 3 ∨ v = 4 ∨ v = 5 ∨ v = 6 ∨ v = 7 ∨ v = 8 ∨ v = 9 ∨ v = 10 := by omega
theorem verbP_write (c : Cmd) (hf : fine c = true) (hi : ints c) : verbP c.verb.toNat (writeV c) = some (c, []) := by
  obtain ⟨hv, hw, _, _⟩ := fine_parts hf
  obtain ⟨hid, hi⟩ := hi
  have hn := hi c.n (by simp)
  have hp := picksP_itoa c.picks fun x hx => hi x (List.mem_append_right _ hx)
  have hq : ∀ x ∈ [c.req.off, c.req.num, c.req.pid, c.req.seq], -9223372036854775808 ≤ x ∧ x ≤ 9223372036854775807 := fun x hx => hi x (by simp at hx ⊢; rcases hx with rfl | rfl | rfl | rfl <;> simp)
  simp only [within, Bool.and_eq_true, decide_eq_true_eq, Bool.or_eq_true] at hw
  obtain ⟨⟨⟨⟨⟨lo, hi'⟩, c0⟩, c9⟩, hl⟩, hx⟩ := hw
  have hb := labelP_itoa c.conn c0 c9
  have hnn := numP_itoa c.n hn
  obtain ⟨verb, conn, req, raw, n, picks⟩ := c
  simp only at *
  rcases int_cases11 verb hv with rfl | rfl | rfl | rfl | rfl | rfl | rfl | rfl | rfl | rfl | rfl
  · simp [loN, hiN, labels] at lo hi' hl hx
    obtain ⟨⟨rfl, rfl⟩, rfl⟩ := hx
    obtain rfl : n = 0 := by omega
    simp [verbP, writeV, hb, cmd0]
  · simp [loN, hiN, labels] at lo hi' hl hx
    obtain ⟨⟨rfl, rfl⟩, rfl⟩ := hx
    obtain rfl : n = 0 := by omega
    simp [verbP, writeV, hb, cmd0]
  · simp [loN, hiN, labels] at lo hi' hl hx
    obtain ⟨⟨ho, rfl⟩, rfl⟩ := hx
    obtain rfl : n = 0 := by omega
    have hop : 1 ≤ req.op ∧ req.op ≤ 15 := by
      simp only [okReq, Bool.and_eq_true, decide_eq_true_eq] at ho
      omega
    have hr := readFs_write req ho hq
    have hid' := numP_itoa req.id ⟨by omega, by omega⟩
    simp only [verbP, writeV, Int.reduceToNat, hb, Option.bind_some, requestP, hid']
    rw [if_neg (by omega), findW_op _ hop]
    simp only [Option.bind_some]
    have e : (((req.op.toNat : Nat)) : Int) = req.op := by omega
    rw [e, hr]
    simp [cmd0]
  · simp [loN, hiN, labels] at lo hi' hl hx
    obtain ⟨rfl, rfl⟩ := hx
    obtain rfl : n = 0 := by omega
    simp [verbP, writeV, hb, cmd0, bytesP_raw]
  · simp [loN, hiN, labels] at lo hi' hl hx
    obtain ⟨⟨rfl, rfl⟩, rfl⟩ := hx
    subst hl
    simp [verbP, writeV, hnn, cmd0]
  · simp [loN, hiN, labels] at lo hi' hl hx
    obtain ⟨rfl, rfl⟩ := hx
    obtain rfl : n = 0 := by omega
    subst hl
    simp [verbP, writeV, hp, cmd0]
  · simp [loN, hiN, labels] at lo hi' hl hx
    obtain ⟨⟨rfl, rfl⟩, rfl⟩ := hx
    simp [verbP, writeV, hb, hnn, cmd0]
  · simp [loN, hiN, labels] at lo hi' hl hx
    obtain ⟨⟨rfl, rfl⟩, rfl⟩ := hx
    subst hl
    simp [verbP, writeV, hnn, cmd0]
  · simp [loN, hiN, labels] at lo hi' hl hx
    obtain ⟨rfl, rfl⟩ := hx
    obtain rfl : n = 0 := by omega
    subst hl
    simp [verbP, writeV, hp, cmd0]
  · simp [loN, hiN, labels] at lo hi' hl hx
    obtain ⟨⟨rfl, rfl⟩, rfl⟩ := hx
    obtain rfl : n = 0 := by omega
    subst hl
    simp [verbP, writeV, cmd0]
  · simp [loN, hiN, labels] at lo hi' hl hx
    obtain ⟨⟨rfl, rfl⟩, rfl⟩ := hx
    obtain rfl : n = 0 := by omega
    subst hl
    simp [verbP, writeV, cmd0]
/-- what is written is read back -/
theorem parse_print (c : Cmd) (line : Bs) (hi : ints c) (h : printL c = some line) : parseL line = some c := by
  have hp := h
  unfold printL at h
  split at h
  · rename_i hf
    injection h with h
    subst h
    unfold parseL
    rw [if_neg (by omega), cut_line c (fine_parts hf.1).1]
    simp only [commandP]
    rw [findW_verb _ (by have := (fine_parts hf.1).1; omega)]
    simp only [Option.bind_some]
    rw [verbP_write c hf.1 hi]
    simp only [Option.bind_some, if_true]
    rw [if_pos hp]
  · cases h
end Go.Proofs.YtepalbldleegiaaGreatDoor.sh
