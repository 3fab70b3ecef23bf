/- A call on a stream, in plain Lean. -/
import Derived.Test.YtgihclflndlomaaAb
namespace Go.Proofs.Ytgihclflndlomaa

/-- What a call gives: a number, bytes, an error. -/
structure Gt where
  n : Int
  b : List UInt8
  e : Int

/-- A call. -/
structure Ac where
  kind : Int
  n : Int
  whence : Int
  b : List UInt8

def byteOf (n : Int) : UInt8 := UInt8.ofNat (n % 256).toNat

def St.act (S : St) (x : Ac) : Gt × St :=
  if x.kind = 0 then (⟨S.getc.1.toNat, [], S.getc.2.1⟩, S.getc.2.2)
  else if x.kind = 1 then (⟨0, [], (S.ungetc (byteOf x.n)).1⟩, (S.ungetc (byteOf x.n)).2)
  else if x.kind = 2 then (⟨0, (S.read x.n).1, (S.read x.n).2.1⟩, (S.read x.n).2.2)
  else if x.kind = 3 then (⟨(S.write x.b).1, [], (S.write x.b).2.1⟩, (S.write x.b).2.2)
  else if x.kind = 4 then (⟨0, [], S.flush.1⟩, S.flush.2)
  else if x.kind = 5 then (⟨0, [], (S.seek x.n x.whence).1⟩, (S.seek x.n x.whence).2)
  else if x.kind = 6 then (⟨S.tell.1, [], S.tell.2⟩, S)
  else if x.kind = 7 then (⟨0, [], 0⟩, S.clear)
  else if x.kind = 8 then (⟨0, [], S.close.1⟩, S.close.2)
  else (⟨0, [], 0⟩, S)

theorem act_ok (S : St) (h : S.Ok) (x : Ac) : (S.act x).2.Ok := by
  unfold St.act
  split
  · exact (getc_ok S h).1
  · split
    · exact ungetc_ok S h _
    · split
      · exact read_ok S h _
      · split
        · exact write_ok S h _
        · split
          · exact flush_ok' S h
          · split
            · exact seek_ok S h _ _
            · split
              · exact h
              · split
                · exact clear_ok S h
                · split
                  · exact close_ok S h
                  · exact h
end Go.Proofs.Ytgihclflndlomaa
