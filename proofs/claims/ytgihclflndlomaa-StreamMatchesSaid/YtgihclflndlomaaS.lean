/- A stream in plain Lean: its state, and what each call gives and leaves; no program and no memory in it. -/
namespace Go.Proofs.Ytgihclflndlomaa

/-- The state of a stream. -/
structure St where
  data : List UInt8
  max : Int
  plan : List Int
  rd : Bool
  wr : Bool
  app : Bool
  size : Int
  lines : Bool
  opened : Bool
  endm : Bool
  bad : Bool
  pos : Int
  ahead : List UInt8
  back : List UInt8
  wait : List UInt8

/-- What every state that is met fulfils. -/
structure St.Ok (S : St) : Prop where
  max0 : 0 ≤ S.max
  max1 : S.max ≤ 1048576
  dlen : (S.data.length : Int) ≤ S.max
  size1 : 1 ≤ S.size
  size2 : S.size ≤ 65536
  pos0 : (S.ahead.length : Int) ≤ S.pos
  pos1 : S.pos ≤ S.max
  back16 : S.back.length ≤ 16
  wlen : (S.wait.length : Int) < S.size

/-- How many of n bytes can be moved. -/
def mayN : List Int → Int → Int
  | [], n => n
  | k :: _, n => if k < 0 then n else min n k

theorem mayN_nonneg (p : List Int) (n : Int) (h : 0 ≤ n) : 0 ≤ mayN p n ∧ mayN p n ≤ n := by
  cases p with
  | nil => exact ⟨h, Int.le_refl _⟩
  | cons k r => unfold mayN; split <;> omega

/-- Bytes written at a place; zeros fill what was not there. -/
def putAt (d : List UInt8) (pos : Nat) (xs : List UInt8) : List UInt8 :=
  (d ++ List.replicate (pos - d.length) 0).take pos ++ xs ++ d.drop (pos + xs.length)

theorem putAt_length (d : List UInt8) (pos : Nat) (xs : List UInt8) : (putAt d pos xs).length = Nat.max d.length (pos + xs.length) := by
  unfold putAt
  simp only [List.length_append, List.length_take, List.length_replicate, List.length_drop]
  simp only [Nat.max_def]
  split <;> omega

theorem putAt_eq (d : List UInt8) (p k : Nat) (xs : List UInt8) (hx : xs.length = k) :
    (d ++ List.replicate (p + k - d.length) 0).take p ++ xs ++ (d ++ List.replicate (p + k - d.length) 0).drop (p + xs.length) = putAt d p xs := by
  unfold putAt
  subst hx
  have h1 : (d ++ List.replicate (p + xs.length - d.length) (0 : UInt8)).take p = (d ++ List.replicate (p - d.length) 0).take p := by
    rw [List.take_append, List.take_append, List.take_replicate, List.take_replicate]
    congr 2
    omega
  have h2 : (d ++ List.replicate (p + xs.length - d.length) (0 : UInt8)).drop (p + xs.length) = d.drop (p + xs.length) := by
    rw [List.drop_append, List.drop_replicate]
    have : p + xs.length - d.length - (p + xs.length - d.length) = 0 := by omega
    rw [this]
    simp
  rw [h1, h2]

/-- How many pending bytes a move moves. -/
def St.moveK (S : St) : Int := min (mayN S.plan S.wait.length) (Max.max 0 (S.max - S.pos))

/-- What is pending is moved. -/
def St.moved (S : St) : St :=
  { S with plan := S.plan.tail, data := if 0 < S.moveK then putAt S.data S.pos.toNat (S.wait.take S.moveK.toNat) else S.data, pos := S.pos + S.moveK, wait := [], bad := S.bad || decide (S.moveK < S.wait.length) }

def St.move (S : St) : Int × Int × St :=
  if S.wait = [] then (0, 0, S) else (S.moveK, if S.moveK < S.wait.length then 14 else 0, S.moved)

/-- Reading ahead: how many bytes a read transfer moves. -/
def St.fillK (S : St) : Int := mayN S.plan (min S.size ((S.data.length : Int) - S.pos))

def St.fill (S : St) : Int × St :=
  if S.endm = true ∨ (S.data.length : Int) ≤ S.pos then (11, { S with endm := true })
  else if S.fillK = 0 then (14, { S with plan := S.plan.tail, bad := true })
  else (0, { S with plan := S.plan.tail, ahead := (S.data.drop S.pos.toNat).take S.fillK.toNat, pos := S.pos + S.fillK })

/-- The first byte that was read ahead. -/
def St.next (S : St) : UInt8 × St := (S.ahead.headD 0, { S with ahead := S.ahead.tail })

/-- Getc behind the moving. -/
def St.getc2 (S : St) : UInt8 × Int × St :=
  if S.back ≠ [] then (S.back.getLastD 0, 0, { S with back := S.back.dropLast })
  else if S.ahead ≠ [] then (S.next.1, 0, S.next.2)
  else if S.fill.1 ≠ 0 then (0, S.fill.1, S.fill.2)
  else (S.fill.2.next.1, 0, S.fill.2.next.2)

def St.getc (S : St) : UInt8 × Int × St :=
  if S.opened = false then (0, 4, S)
  else if S.rd = false then (0, 4, S)
  else if S.move.2.1 ≠ 0 then (0, S.move.2.1, S.move.2.2)
  else S.move.2.2.getc2

def St.ungetc (S : St) (c : UInt8) : Int × St :=
  if S.opened = false then (4, S)
  else if S.rd = false then (4, S)
  else if S.move.2.1 ≠ 0 then (S.move.2.1, S.move.2.2)
  else if 16 ≤ S.move.2.2.back.length then (2, S.move.2.2)
  else (0, { S.move.2.2 with back := S.move.2.2.back ++ [c], endm := false })

def St.readN : Nat → St → List UInt8 × Int × St
  | 0, S => ([], 0, S)
  | n + 1, S =>
    if S.getc.2.1 ≠ 0 then ([], S.getc.2.1, S.getc.2.2)
    else (S.getc.1 :: (St.readN n S.getc.2.2).1, (St.readN n S.getc.2.2).2.1, (St.readN n S.getc.2.2).2.2)

def St.read (S : St) (n : Int) : List UInt8 × Int × St :=
  if S.opened = false then ([], 4, S)
  else if n < 0 ∨ 1048576 < n then ([], 1, S)
  else if S.rd = false then ([], 4, S)
  else S.readN n.toNat

/-- Write, the bytes laid behind what is pending. -/
def St.laid (S : St) (b : List UInt8) : St :=
  { S with pos := if S.app = true ∧ S.wait = [] then (S.data.length : Int) else S.pos - S.ahead.length, ahead := [], back := [], wait := S.wait ++ b }

def St.write (S : St) (b : List UInt8) : Int × Int × St :=
  if S.opened = false then (0, 4, S)
  else if S.wr = false then (0, 4, S)
  else if 1048576 < b.length then (0, 2, S)
  else if ((S.wait ++ b).length : Int) < S.size ∧ ¬ (S.lines = true ∧ (10 : UInt8) ∈ b) then (b.length, 0, S.laid b)
  else (Max.max 0 ((S.laid b).move.1 - S.wait.length), (S.laid b).move.2.1, (S.laid b).move.2.2)

def St.flush (S : St) : Int × St :=
  if S.opened = false then (4, S) else (S.move.2.1, S.move.2.2)

def St.close (S : St) : Int × St :=
  if S.opened = false then (4, S) else (S.move.2.1, { S.move.2.2 with opened := false, endm := false, bad := false })

def St.tellAt (S : St) : Int := S.pos + S.wait.length - S.ahead.length - S.back.length

def St.tell (S : St) : Int × Int :=
  if S.opened = false then (0, 4) else if S.tellAt < 0 then (0, 4) else (S.tellAt, 0)

def St.seekTo (S : St) (p : Int) : St := { S with pos := p, ahead := [], back := [], endm := false }

/-- Seek behind the moving, from a place. -/
def St.seekFrom (S : St) (off from_ : Int) : Int × St :=
  if off < -1048576 ∨ 1048576 < off ∨ from_ + off < 0 ∨ S.max < from_ + off then (3, S) else (0, S.seekTo (from_ + off))

def St.seek (S : St) (off whence : Int) : Int × St :=
  if S.opened = false then (4, S)
  else if S.move.2.1 ≠ 0 then (S.move.2.1, S.move.2.2)
  else if whence = 0 then S.move.2.2.seekFrom off 0
  else if whence = 1 then (if S.move.2.2.tellAt < 0 then (4, S.move.2.2) else S.move.2.2.seekFrom off S.move.2.2.tellAt)
  else if whence = 2 then S.move.2.2.seekFrom off S.move.2.2.data.length
  else (1, S.move.2.2)

def St.clear (S : St) : St := { S with endm := false, bad := false }

end Go.Proofs.Ytgihclflndlomaa
