/- The transitions of a node's state, as plain functions. -/
import Derived.Test.YtdblhmpcilihnaaGreatTT
import Derived.Test.YtdblhmpcilihnaaGreatMM
namespace Go.Proofs.YtdblhmpcilihnaaGreat
set_option linter.unusedVariables false
def zS : State := ⟨0, 0, 0, 0, []⟩
def zSp : Spec := ⟨0, ⟨0, 0, 0⟩, [], []⟩
def uEp (k : Int) : Prop := k = 1 ∨ k = 2 ∨ k = 3
def uId (k : Int) : Prop := 2 ≤ k ∧ k ≤ 8
def uTa (k : Int) : Prop := 4 ≤ k ∧ k ≤ 8
def uTi (k : Int) : Prop := k = 2 ∨ k = 4 ∨ k = 8 ∨ k = 9
/-- What a kind does not use is zero. -/
def Rec.pln (r : Rec) : Prop := (¬ uEp r.kind → r.epoch = 0) ∧ (¬ uId r.kind → r.id = 0) ∧ (¬ uTa r.kind → r.task = 0) ∧ (¬ uTi r.kind → r.tick = 0) ∧ (r.kind ≠ 2 → r.wait = 0) ∧ (r.kind ≠ 5 → r.pid = 0) ∧ (r.kind ≠ 5 → r.nonce = 0) ∧ (r.kind ≠ 8 → r.code = 0) ∧ (r.kind ≠ 1 → r.spec = zSp)
def Rec.rng (r : Rec) : Prop := inR r.epoch 0 mT ∧ inR r.id 0 2147483648 ∧ inR r.task 0 3 ∧ inR r.tick 0 mT ∧ inR r.wait 0 mT ∧ inR r.pid 0 mT ∧ inR r.nonce 0 mT
open Classical in
noncomputable def recE (r : Rec) : Int := if ¬ (1 ≤ r.kind ∧ r.kind ≤ 9) ∨ ¬ r.pln then 2 else if ¬ r.rng then 3 else if r.kind = 1 then specE r.spec else 0
/-- Where an allocation is put. -/
def posA (l : List Alloc) (id : Int) : Nat := (l.takeWhile fun a => decide (a.spec.id < id)).length
def slotF (l : List Alloc) : Nat → Int → Int
  | 0, n => n
  | f + 1, n => if ∃ a ∈ l, a.slot = n then slotF l f (n + 1) else n
def newA (s : State) (x : Spec) : Alloc := ⟨x, s.lives, slotF s.allocs 9 0, false, List.replicate x.tasks.length default⟩
open Classical in
noncomputable def doPlace (c : Config) (s : State) (r : Rec) : Int × State :=
  if r.epoch < s.epoch then (13, zS) else if 0 ≤ findG s.allocs r.spec.id 0 then (8, zS) else
  if c.allocs ≤ s.allocs.length ∨ roomB c (r.spec.res :: usedR s.allocs) = false then (9, zS) else
  if ∃ y ∈ usedP s.allocs, meetF r.spec.ports y ≠ [] then (7, zS) else if s.lives = mT then (3, zS) else
  (0, ⟨r.epoch, s.next, s.lives + 1, s.ack, s.allocs.take (posA s.allocs r.spec.id) ++ newA s r.spec :: s.allocs.drop (posA s.allocs r.spec.id)⟩)
noncomputable def stop1 (n : Int) (t : Task) : Task := if overT t.state ∨ t.state = 5 then t else (stopT t n).2
def State.at (s : State) (i : Int) : Alloc := s.allocs.getD i.toNat default
def Alloc.put (a : Alloc) (st : Bool) (l : List Task) : Alloc := ⟨a.spec, a.life, a.slot, st, l⟩
noncomputable def doStopS (s : State) (r : Rec) : Int × State :=
  if r.epoch < s.epoch then (13, zS) else if findG s.allocs r.id 0 < 0 then (6, zS) else
  if (s.at (findG s.allocs r.id 0)).stop = true ∨ overB (s.at (findG s.allocs r.id 0)) = true then (7, zS) else
  (0, ⟨r.epoch, s.next, s.lives, s.ack, s.allocs.set (findG s.allocs r.id 0).toNat ((s.at (findG s.allocs r.id 0)).put true ((s.at (findG s.allocs r.id 0)).tasks.map (stop1 (r.tick + r.wait))))⟩)
noncomputable def doForget (s : State) (r : Rec) : Int × State :=
  if r.epoch < s.epoch then (13, zS) else if findG s.allocs r.id 0 < 0 then (6, zS) else
  if overB (s.at (findG s.allocs r.id 0)) = false then (7, zS) else
  (0, ⟨r.epoch, s.next, s.lives, s.ack, s.allocs.eraseIdx (findG s.allocs r.id 0).toNat⟩)
/-- What becomes of a task. -/
noncomputable def turnT (s : State) (a : Alloc) (t : Task) (p : Policy) (r : Rec) : Int × Task :=
  if r.kind = 4 then intentT t p s.next r.tick else if r.kind = 5 then handleT t r.pid r.nonce else if r.kind = 6 then failT t else if r.kind = 7 then killT t else exitT t p a.stop r.code r.tick
def Alloc.tk (a : Alloc) (k : Int) : Task := a.tasks.getD k.toNat default
def Alloc.pol (a : Alloc) (k : Int) : Policy := (a.spec.tasks.getD k.toNat default).policy
noncomputable def doTurn (s : State) (r : Rec) : Int × State :=
  if findG s.allocs r.id 0 < 0 then (6, zS) else
  let a := s.at (findG s.allocs r.id 0)
  if r.task < 0 ∨ (a.tasks.length : Int) ≤ r.task ∨ (r.kind = 4 ∧ s.next = mT) then (3, zS) else
  let z := turnT s a (a.tk r.task) (a.pol r.task) r
  if z.1 ≠ 0 then (z.1, zS) else
  (0, ⟨s.epoch, if r.kind = 4 then s.next + 1 else s.next, s.lives, s.ack, s.allocs.set (findG s.allocs r.id 0).toNat (a.put a.stop (a.tasks.set r.task.toNat z.2))⟩)
def doAck (s : State) (r : Rec) : Int × State := if r.tick ≤ s.ack then (7, zS) else (0, ⟨s.epoch, s.next, s.lives, r.tick, s.allocs⟩)
noncomputable def doRec (c : Config) (s : State) (r : Rec) : Int × State :=
  if r.kind = 1 then doPlace c s r else if r.kind = 2 then doStopS s r else if r.kind = 3 then doForget s r else if r.kind = 9 then doAck s r else doTurn s r
/-- A record is applied. -/
noncomputable def applyF (c : Config) (s : State) (r : Rec) : Int × State := if stE c s ≠ 0 then (stE c s, zS) else if recE r ≠ 0 then (recE r, zS) else doRec c s r
abbrev resS (r : Int × State) : E.AV := .tup [r.2.av, I r.1]
end Go.Proofs.YtdblhmpcilihnaaGreat
