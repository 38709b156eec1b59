/- The data of the program as Lean structures: written by gen_types.py. -/
import Derived.Test.YtdblhmpcilihnaaGreatMem
import Derived.Test.YtdblhmpcilihnaaGreatChecked
namespace Go.Proofs.YtdblhmpcilihnaaGreat
open Go.RowKit
structure Res where
  cpu : Int
  mem : Int
  disk : Int
def Res.kn : Kn Res := (((Kn.int .i64)).pair (((Kn.int .i64)).pair ((Kn.int .i64)))).iso fun x => (x.cpu, x.mem, x.disk)
theorem Res.opens : Kn.Opens Tryz.prog 31 Res.kn := by
  refine Kn.opens_iso (Kn.opens_struct Tryz.underlying31 (by kernel_rfl) ?_) _ (fun p => ⟨p.1, p.2.1, p.2.2⟩) (fun _ => rfl)
  exact (Kn.flds_cons rfl (by kernel_rfl) (Kn.opens_int Tryz.underlying3) (Kn.flds_cons rfl (by kernel_rfl) (Kn.opens_int Tryz.underlying3) (Kn.flds_one rfl (by kernel_rfl) (Kn.opens_int Tryz.underlying3))))
theorem Res.form {w : World} {x : Res} {cs : List Value} (h : Res.kn.K w x cs) : cs = [.int .i64 x.cpu, .int .i64 x.mem, .int .i64 x.disk] := by
  obtain ⟨_, _, rfl, rfl, ⟨_, _, rfl, rfl, rfl⟩⟩ := h
  rfl
theorem Res.mk_K {w : World} (x : Res)  : Res.kn.K w x [.int .i64 x.cpu, .int .i64 x.mem, .int .i64 x.disk] :=
  ⟨_, _, rfl, rfl, ⟨_, _, rfl, rfl, rfl⟩⟩
def Res.cells (x : Res) : Array Value := #[.int .i64 x.cpu, .int .i64 x.mem, .int .i64 x.disk]
def Res.val (x : Res) : Value := .agg #[.int .i64 x.cpu, .int .i64 x.mem, .int .i64 x.disk]
theorem Res.sz : Res.kn.sz = 3 := rfl
structure Policy where
  always : Bool
  limit : Int
  window : Int
  base : Int
  most : Int
def Policy.kn : Kn Policy := ((Kn.bool).pair (((Kn.int .i64)).pair (((Kn.int .i64)).pair (((Kn.int .i64)).pair ((Kn.int .i64)))))).iso fun x => (x.always, x.limit, x.window, x.base, x.most)
theorem Policy.opens : Kn.Opens Tryz.prog 109 Policy.kn := by
  refine Kn.opens_iso (Kn.opens_struct Tryz.underlying109 (by kernel_rfl) ?_) _ (fun p => ⟨p.1, p.2.1, p.2.2.1, p.2.2.2.1, p.2.2.2.2⟩) (fun _ => rfl)
  exact (Kn.flds_cons rfl (by kernel_rfl) (Kn.opens_bool Tryz.underlying4) (Kn.flds_cons rfl (by kernel_rfl) (Kn.opens_int Tryz.underlying3) (Kn.flds_cons rfl (by kernel_rfl) (Kn.opens_int Tryz.underlying3) (Kn.flds_cons rfl (by kernel_rfl) (Kn.opens_int Tryz.underlying3) (Kn.flds_one rfl (by kernel_rfl) (Kn.opens_int Tryz.underlying3))))))
theorem Policy.form {w : World} {x : Policy} {cs : List Value} (h : Policy.kn.K w x cs) : cs = [.bool x.always, .int .i64 x.limit, .int .i64 x.window, .int .i64 x.base, .int .i64 x.most] := by
  obtain ⟨_, _, rfl, rfl, ⟨_, _, rfl, rfl, ⟨_, _, rfl, rfl, ⟨_, _, rfl, rfl, rfl⟩⟩⟩⟩ := h
  rfl
theorem Policy.mk_K {w : World} (x : Policy)  : Policy.kn.K w x [.bool x.always, .int .i64 x.limit, .int .i64 x.window, .int .i64 x.base, .int .i64 x.most] :=
  ⟨_, _, rfl, rfl, ⟨_, _, rfl, rfl, ⟨_, _, rfl, rfl, ⟨_, _, rfl, rfl, rfl⟩⟩⟩⟩
def Policy.cells (x : Policy) : Array Value := #[.bool x.always, .int .i64 x.limit, .int .i64 x.window, .int .i64 x.base, .int .i64 x.most]
def Policy.val (x : Policy) : Value := .agg #[.bool x.always, .int .i64 x.limit, .int .i64 x.window, .int .i64 x.base, .int .i64 x.most]
theorem Policy.sz : Policy.kn.sz = 5 := rfl
structure TaskSpec where
  policy : Policy
  probes : Int
def TaskSpec.kn : Kn TaskSpec := ((Policy.kn).pair ((Kn.int .i64))).iso fun x => (x.policy, x.probes)
theorem TaskSpec.opens : Kn.Opens Tryz.prog 111 TaskSpec.kn := by
  refine Kn.opens_iso (Kn.opens_struct Tryz.underlying111 (by kernel_rfl) ?_) _ (fun p => ⟨p.1, p.2⟩) (fun _ => rfl)
  exact (Kn.flds_cons rfl (by kernel_rfl) Policy.opens (Kn.flds_one rfl (by kernel_rfl) (Kn.opens_int Tryz.underlying3)))
theorem TaskSpec.form {w : World} {x : TaskSpec} {cs : List Value} (h : TaskSpec.kn.K w x cs) : cs = [.bool x.policy.always, .int .i64 x.policy.limit, .int .i64 x.policy.window, .int .i64 x.policy.base, .int .i64 x.policy.most, .int .i64 x.probes] := by
  obtain ⟨_, _, rfl, ⟨_, _, rfl, rfl, ⟨_, _, rfl, rfl, ⟨_, _, rfl, rfl, ⟨_, _, rfl, rfl, rfl⟩⟩⟩⟩, rfl⟩ := h
  rfl
theorem TaskSpec.mk_K {w : World} (x : TaskSpec)  : TaskSpec.kn.K w x [.bool x.policy.always, .int .i64 x.policy.limit, .int .i64 x.policy.window, .int .i64 x.policy.base, .int .i64 x.policy.most, .int .i64 x.probes] :=
  ⟨_, _, rfl, ⟨_, _, rfl, rfl, ⟨_, _, rfl, rfl, ⟨_, _, rfl, rfl, ⟨_, _, rfl, rfl, rfl⟩⟩⟩⟩, rfl⟩
def TaskSpec.cells (x : TaskSpec) : Array Value := #[.bool x.policy.always, .int .i64 x.policy.limit, .int .i64 x.policy.window, .int .i64 x.policy.base, .int .i64 x.policy.most, .int .i64 x.probes]
def TaskSpec.val (x : TaskSpec) : Value := .agg #[.bool x.policy.always, .int .i64 x.policy.limit, .int .i64 x.policy.window, .int .i64 x.policy.base, .int .i64 x.policy.most, .int .i64 x.probes]
theorem TaskSpec.sz : TaskSpec.kn.sz = 6 := rfl
structure Spec where
  id : Int
  res : Res
  ports : List Int
  tasks : List TaskSpec
def Spec.kn : Kn Spec := (((Kn.int .i64)).pair ((Res.kn).pair (((Kn.slice (Kn.int .i64))).pair ((Kn.slice TaskSpec.kn))))).iso fun x => (x.id, x.res, x.ports, x.tasks)
theorem Spec.opens : Kn.Opens Tryz.prog 35 Spec.kn := by
  refine Kn.opens_iso (Kn.opens_struct Tryz.underlying35 (by kernel_rfl) ?_) _ (fun p => ⟨p.1, p.2.1, p.2.2.1, p.2.2.2⟩) (fun _ => rfl)
  exact (Kn.flds_cons rfl (by kernel_rfl) (Kn.opens_int Tryz.underlying3) (Kn.flds_cons rfl (by kernel_rfl) Res.opens (Kn.flds_cons rfl (by kernel_rfl) (Kn.opens_slice Tryz.underlying32 (by kernel_rfl) (Kn.opens_int Tryz.underlying3)) (Kn.flds_one rfl (by kernel_rfl) (Kn.opens_slice Tryz.underlying33 (by kernel_rfl) TaskSpec.opens)))))
theorem Spec.form {w : World} {x : Spec} {cs : List Value} (h : Spec.kn.K w x cs) : ∃ (A1 : Option Addr) (c1 : Nat), ∃ (A2 : Option Addr) (c2 : Nat), cs = [.int .i64 x.id, .int .i64 x.res.cpu, .int .i64 x.res.mem, .int .i64 x.res.disk, .slice A1 x.ports.length c1, .slice A2 x.tasks.length c2] ∧ (x.ports.length ≤ c1 ∧ c1 ≤ maxLen) ∧ Kn.Sl (Kn.int .i64) w A1 x.ports ∧ (x.tasks.length ≤ c2 ∧ c2 ≤ maxLen) ∧ Kn.Sl TaskSpec.kn w A2 x.tasks := by
  obtain ⟨_, _, rfl, rfl, ⟨_, _, rfl, ⟨_, _, rfl, rfl, ⟨_, _, rfl, rfl, rfl⟩⟩, ⟨_, _, rfl, ⟨A1, c1, rfl, hl1, hs1⟩, ⟨A2, c2, rfl, hl2, hs2⟩⟩⟩⟩ := h
  exact ⟨A1, c1, A2, c2, rfl, hl1, hs1, hl2, hs2⟩
theorem Spec.mk_K {w : World} (x : Spec) {A1 : Option Addr} {c1 : Nat} {A2 : Option Addr} {c2 : Nat} (hl1 : x.ports.length ≤ c1 ∧ c1 ≤ maxLen) (hs1 : Kn.Sl (Kn.int .i64) w A1 x.ports) (hl2 : x.tasks.length ≤ c2 ∧ c2 ≤ maxLen) (hs2 : Kn.Sl TaskSpec.kn w A2 x.tasks) : Spec.kn.K w x [.int .i64 x.id, .int .i64 x.res.cpu, .int .i64 x.res.mem, .int .i64 x.res.disk, .slice A1 x.ports.length c1, .slice A2 x.tasks.length c2] :=
  ⟨_, _, rfl, rfl, ⟨_, _, rfl, ⟨_, _, rfl, rfl, ⟨_, _, rfl, rfl, rfl⟩⟩, ⟨_, _, rfl, ⟨_, _, rfl, hl1, hs1⟩, ⟨_, _, rfl, hl2, hs2⟩⟩⟩⟩
def Spec.cells (x : Spec) (A1 : Option Addr) (c1 : Nat) (A2 : Option Addr) (c2 : Nat) : Array Value := #[.int .i64 x.id, .int .i64 x.res.cpu, .int .i64 x.res.mem, .int .i64 x.res.disk, .slice A1 x.ports.length c1, .slice A2 x.tasks.length c2]
def Spec.val (x : Spec) (A1 : Option Addr) (c1 : Nat) (A2 : Option Addr) (c2 : Nat) : Value := .agg #[.int .i64 x.id, .int .i64 x.res.cpu, .int .i64 x.res.mem, .int .i64 x.res.disk, .slice A1 x.ports.length c1, .slice A2 x.tasks.length c2]
theorem Spec.sz : Spec.kn.sz = 6 := rfl
structure Config where
  cap : Res
  allocs : Int
  area : Int
  files : Int
  blocks : Int
  beat : Int
  lease : Int
  grace : Int
  wait : Int
def Config.kn : Kn Config := ((Res.kn).pair (((Kn.int .i64)).pair (((Kn.int .i64)).pair (((Kn.int .i64)).pair (((Kn.int .i64)).pair (((Kn.int .i64)).pair (((Kn.int .i64)).pair (((Kn.int .i64)).pair ((Kn.int .i64)))))))))).iso fun x => (x.cap, x.allocs, x.area, x.files, x.blocks, x.beat, x.lease, x.grace, x.wait)
theorem Config.opens : Kn.Opens Tryz.prog 44 Config.kn := by
  refine Kn.opens_iso (Kn.opens_struct Tryz.underlying44 (by kernel_rfl) ?_) _ (fun p => ⟨p.1, p.2.1, p.2.2.1, p.2.2.2.1, p.2.2.2.2.1, p.2.2.2.2.2.1, p.2.2.2.2.2.2.1, p.2.2.2.2.2.2.2.1, p.2.2.2.2.2.2.2.2⟩) (fun _ => rfl)
  exact (Kn.flds_cons rfl (by kernel_rfl) Res.opens (Kn.flds_cons rfl (by kernel_rfl) (Kn.opens_int Tryz.underlying3) (Kn.flds_cons rfl (by kernel_rfl) (Kn.opens_int Tryz.underlying3) (Kn.flds_cons rfl (by kernel_rfl) (Kn.opens_int Tryz.underlying3) (Kn.flds_cons rfl (by kernel_rfl) (Kn.opens_int Tryz.underlying3) (Kn.flds_cons rfl (by kernel_rfl) (Kn.opens_int Tryz.underlying3) (Kn.flds_cons rfl (by kernel_rfl) (Kn.opens_int Tryz.underlying3) (Kn.flds_cons rfl (by kernel_rfl) (Kn.opens_int Tryz.underlying3) (Kn.flds_one rfl (by kernel_rfl) (Kn.opens_int Tryz.underlying3))))))))))
theorem Config.form {w : World} {x : Config} {cs : List Value} (h : Config.kn.K w x cs) : cs = [.int .i64 x.cap.cpu, .int .i64 x.cap.mem, .int .i64 x.cap.disk, .int .i64 x.allocs, .int .i64 x.area, .int .i64 x.files, .int .i64 x.blocks, .int .i64 x.beat, .int .i64 x.lease, .int .i64 x.grace, .int .i64 x.wait] := by
  obtain ⟨_, _, rfl, ⟨_, _, rfl, rfl, ⟨_, _, rfl, rfl, rfl⟩⟩, ⟨_, _, rfl, rfl, ⟨_, _, rfl, rfl, ⟨_, _, rfl, rfl, ⟨_, _, rfl, rfl, ⟨_, _, rfl, rfl, ⟨_, _, rfl, rfl, ⟨_, _, rfl, rfl, rfl⟩⟩⟩⟩⟩⟩⟩⟩ := h
  rfl
theorem Config.mk_K {w : World} (x : Config)  : Config.kn.K w x [.int .i64 x.cap.cpu, .int .i64 x.cap.mem, .int .i64 x.cap.disk, .int .i64 x.allocs, .int .i64 x.area, .int .i64 x.files, .int .i64 x.blocks, .int .i64 x.beat, .int .i64 x.lease, .int .i64 x.grace, .int .i64 x.wait] :=
  ⟨_, _, rfl, ⟨_, _, rfl, rfl, ⟨_, _, rfl, rfl, rfl⟩⟩, ⟨_, _, rfl, rfl, ⟨_, _, rfl, rfl, ⟨_, _, rfl, rfl, ⟨_, _, rfl, rfl, ⟨_, _, rfl, rfl, ⟨_, _, rfl, rfl, ⟨_, _, rfl, rfl, rfl⟩⟩⟩⟩⟩⟩⟩⟩
def Config.cells (x : Config) : Array Value := #[.int .i64 x.cap.cpu, .int .i64 x.cap.mem, .int .i64 x.cap.disk, .int .i64 x.allocs, .int .i64 x.area, .int .i64 x.files, .int .i64 x.blocks, .int .i64 x.beat, .int .i64 x.lease, .int .i64 x.grace, .int .i64 x.wait]
def Config.val (x : Config) : Value := .agg #[.int .i64 x.cap.cpu, .int .i64 x.cap.mem, .int .i64 x.cap.disk, .int .i64 x.allocs, .int .i64 x.area, .int .i64 x.files, .int .i64 x.blocks, .int .i64 x.beat, .int .i64 x.lease, .int .i64 x.grace, .int .i64 x.wait]
theorem Config.sz : Config.kn.sz = 11 := rfl
structure Token where
  alloc : Int
  task : Int
  inc : Int
def Token.kn : Kn Token := (((Kn.int .i64)).pair (((Kn.int .i64)).pair ((Kn.int .i64)))).iso fun x => (x.alloc, x.task, x.inc)
theorem Token.opens : Kn.Opens Tryz.prog 68 Token.kn := by
  refine Kn.opens_iso (Kn.opens_struct Tryz.underlying68 (by kernel_rfl) ?_) _ (fun p => ⟨p.1, p.2.1, p.2.2⟩) (fun _ => rfl)
  exact (Kn.flds_cons rfl (by kernel_rfl) (Kn.opens_int Tryz.underlying3) (Kn.flds_cons rfl (by kernel_rfl) (Kn.opens_int Tryz.underlying3) (Kn.flds_one rfl (by kernel_rfl) (Kn.opens_int Tryz.underlying3))))
theorem Token.form {w : World} {x : Token} {cs : List Value} (h : Token.kn.K w x cs) : cs = [.int .i64 x.alloc, .int .i64 x.task, .int .i64 x.inc] := by
  obtain ⟨_, _, rfl, rfl, ⟨_, _, rfl, rfl, rfl⟩⟩ := h
  rfl
theorem Token.mk_K {w : World} (x : Token)  : Token.kn.K w x [.int .i64 x.alloc, .int .i64 x.task, .int .i64 x.inc] :=
  ⟨_, _, rfl, rfl, ⟨_, _, rfl, rfl, rfl⟩⟩
def Token.cells (x : Token) : Array Value := #[.int .i64 x.alloc, .int .i64 x.task, .int .i64 x.inc]
def Token.val (x : Token) : Value := .agg #[.int .i64 x.alloc, .int .i64 x.task, .int .i64 x.inc]
theorem Token.sz : Token.kn.sz = 3 := rfl
structure Task where
  state : Int
  inc : Int
  pid : Int
  nonce : Int
  due : Int
  until_ : Int
  code : Int
  starts : List Int
def Task.kn : Kn Task := (((Kn.int .u8)).pair (((Kn.int .i64)).pair (((Kn.int .i64)).pair (((Kn.int .i64)).pair (((Kn.int .i64)).pair (((Kn.int .i64)).pair (((Kn.int .i64)).pair ((Kn.slice (Kn.int .i64)))))))))).iso fun x => (x.state, x.inc, x.pid, x.nonce, x.due, x.until_, x.code, x.starts)
theorem Task.opens : Kn.Opens Tryz.prog 62 Task.kn := by
  refine Kn.opens_iso (Kn.opens_struct Tryz.underlying62 (by kernel_rfl) ?_) _ (fun p => ⟨p.1, p.2.1, p.2.2.1, p.2.2.2.1, p.2.2.2.2.1, p.2.2.2.2.2.1, p.2.2.2.2.2.2.1, p.2.2.2.2.2.2.2⟩) (fun _ => rfl)
  exact (Kn.flds_cons rfl (by kernel_rfl) (Kn.opens_int Tryz.underlying5) (Kn.flds_cons rfl (by kernel_rfl) (Kn.opens_int Tryz.underlying3) (Kn.flds_cons rfl (by kernel_rfl) (Kn.opens_int Tryz.underlying3) (Kn.flds_cons rfl (by kernel_rfl) (Kn.opens_int Tryz.underlying3) (Kn.flds_cons rfl (by kernel_rfl) (Kn.opens_int Tryz.underlying3) (Kn.flds_cons rfl (by kernel_rfl) (Kn.opens_int Tryz.underlying3) (Kn.flds_cons rfl (by kernel_rfl) (Kn.opens_int Tryz.underlying3) (Kn.flds_one rfl (by kernel_rfl) (Kn.opens_slice Tryz.underlying32 (by kernel_rfl) (Kn.opens_int Tryz.underlying3))))))))))
theorem Task.form {w : World} {x : Task} {cs : List Value} (h : Task.kn.K w x cs) : ∃ (A1 : Option Addr) (c1 : Nat), cs = [.int .u8 x.state, .int .i64 x.inc, .int .i64 x.pid, .int .i64 x.nonce, .int .i64 x.due, .int .i64 x.until_, .int .i64 x.code, .slice A1 x.starts.length c1] ∧ (x.starts.length ≤ c1 ∧ c1 ≤ maxLen) ∧ Kn.Sl (Kn.int .i64) w A1 x.starts := by
  obtain ⟨_, _, rfl, rfl, ⟨_, _, rfl, rfl, ⟨_, _, rfl, rfl, ⟨_, _, rfl, rfl, ⟨_, _, rfl, rfl, ⟨_, _, rfl, rfl, ⟨_, _, rfl, rfl, ⟨A1, c1, rfl, hl1, hs1⟩⟩⟩⟩⟩⟩⟩⟩ := h
  exact ⟨A1, c1, rfl, hl1, hs1⟩
theorem Task.mk_K {w : World} (x : Task) {A1 : Option Addr} {c1 : Nat} (hl1 : x.starts.length ≤ c1 ∧ c1 ≤ maxLen) (hs1 : Kn.Sl (Kn.int .i64) w A1 x.starts) : Task.kn.K w x [.int .u8 x.state, .int .i64 x.inc, .int .i64 x.pid, .int .i64 x.nonce, .int .i64 x.due, .int .i64 x.until_, .int .i64 x.code, .slice A1 x.starts.length c1] :=
  ⟨_, _, rfl, rfl, ⟨_, _, rfl, rfl, ⟨_, _, rfl, rfl, ⟨_, _, rfl, rfl, ⟨_, _, rfl, rfl, ⟨_, _, rfl, rfl, ⟨_, _, rfl, rfl, ⟨_, _, rfl, hl1, hs1⟩⟩⟩⟩⟩⟩⟩⟩
def Task.cells (x : Task) (A1 : Option Addr) (c1 : Nat) : Array Value := #[.int .u8 x.state, .int .i64 x.inc, .int .i64 x.pid, .int .i64 x.nonce, .int .i64 x.due, .int .i64 x.until_, .int .i64 x.code, .slice A1 x.starts.length c1]
def Task.val (x : Task) (A1 : Option Addr) (c1 : Nat) : Value := .agg #[.int .u8 x.state, .int .i64 x.inc, .int .i64 x.pid, .int .i64 x.nonce, .int .i64 x.due, .int .i64 x.until_, .int .i64 x.code, .slice A1 x.starts.length c1]
theorem Task.sz : Task.kn.sz = 8 := rfl
structure Alloc where
  spec : Spec
  life : Int
  slot : Int
  stop : Bool
  tasks : List Task
def Alloc.kn : Kn Alloc := ((Spec.kn).pair (((Kn.int .i64)).pair (((Kn.int .i64)).pair ((Kn.bool).pair ((Kn.slice Task.kn)))))).iso fun x => (x.spec, x.life, x.slot, x.stop, x.tasks)
theorem Alloc.opens : Kn.Opens Tryz.prog 38 Alloc.kn := by
  refine Kn.opens_iso (Kn.opens_struct Tryz.underlying38 (by kernel_rfl) ?_) _ (fun p => ⟨p.1, p.2.1, p.2.2.1, p.2.2.2.1, p.2.2.2.2⟩) (fun _ => rfl)
  exact (Kn.flds_cons rfl (by kernel_rfl) Spec.opens (Kn.flds_cons rfl (by kernel_rfl) (Kn.opens_int Tryz.underlying3) (Kn.flds_cons rfl (by kernel_rfl) (Kn.opens_int Tryz.underlying3) (Kn.flds_cons rfl (by kernel_rfl) (Kn.opens_bool Tryz.underlying4) (Kn.flds_one rfl (by kernel_rfl) (Kn.opens_slice Tryz.underlying36 (by kernel_rfl) Task.opens))))))
theorem Alloc.form {w : World} {x : Alloc} {cs : List Value} (h : Alloc.kn.K w x cs) : ∃ (A1 : Option Addr) (c1 : Nat), ∃ (A2 : Option Addr) (c2 : Nat), ∃ (A3 : Option Addr) (c3 : Nat), cs = [.int .i64 x.spec.id, .int .i64 x.spec.res.cpu, .int .i64 x.spec.res.mem, .int .i64 x.spec.res.disk, .slice A1 x.spec.ports.length c1, .slice A2 x.spec.tasks.length c2, .int .i64 x.life, .int .i64 x.slot, .bool x.stop, .slice A3 x.tasks.length c3] ∧ (x.spec.ports.length ≤ c1 ∧ c1 ≤ maxLen) ∧ Kn.Sl (Kn.int .i64) w A1 x.spec.ports ∧ (x.spec.tasks.length ≤ c2 ∧ c2 ≤ maxLen) ∧ Kn.Sl TaskSpec.kn w A2 x.spec.tasks ∧ (x.tasks.length ≤ c3 ∧ c3 ≤ maxLen) ∧ Kn.Sl Task.kn w A3 x.tasks := by
  obtain ⟨_, _, rfl, ⟨_, _, rfl, rfl, ⟨_, _, rfl, ⟨_, _, rfl, rfl, ⟨_, _, rfl, rfl, rfl⟩⟩, ⟨_, _, rfl, ⟨A1, c1, rfl, hl1, hs1⟩, ⟨A2, c2, rfl, hl2, hs2⟩⟩⟩⟩, ⟨_, _, rfl, rfl, ⟨_, _, rfl, rfl, ⟨_, _, rfl, rfl, ⟨A3, c3, rfl, hl3, hs3⟩⟩⟩⟩⟩ := h
  exact ⟨A1, c1, A2, c2, A3, c3, rfl, hl1, hs1, hl2, hs2, hl3, hs3⟩
theorem Alloc.mk_K {w : World} (x : Alloc) {A1 : Option Addr} {c1 : Nat} {A2 : Option Addr} {c2 : Nat} {A3 : Option Addr} {c3 : Nat} (hl1 : x.spec.ports.length ≤ c1 ∧ c1 ≤ maxLen) (hs1 : Kn.Sl (Kn.int .i64) w A1 x.spec.ports) (hl2 : x.spec.tasks.length ≤ c2 ∧ c2 ≤ maxLen) (hs2 : Kn.Sl TaskSpec.kn w A2 x.spec.tasks) (hl3 : x.tasks.length ≤ c3 ∧ c3 ≤ maxLen) (hs3 : Kn.Sl Task.kn w A3 x.tasks) : Alloc.kn.K w x [.int .i64 x.spec.id, .int .i64 x.spec.res.cpu, .int .i64 x.spec.res.mem, .int .i64 x.spec.res.disk, .slice A1 x.spec.ports.length c1, .slice A2 x.spec.tasks.length c2, .int .i64 x.life, .int .i64 x.slot, .bool x.stop, .slice A3 x.tasks.length c3] :=
  ⟨_, _, rfl, ⟨_, _, rfl, rfl, ⟨_, _, rfl, ⟨_, _, rfl, rfl, ⟨_, _, rfl, rfl, rfl⟩⟩, ⟨_, _, rfl, ⟨_, _, rfl, hl1, hs1⟩, ⟨_, _, rfl, hl2, hs2⟩⟩⟩⟩, ⟨_, _, rfl, rfl, ⟨_, _, rfl, rfl, ⟨_, _, rfl, rfl, ⟨_, _, rfl, hl3, hs3⟩⟩⟩⟩⟩
def Alloc.cells (x : Alloc) (A1 : Option Addr) (c1 : Nat) (A2 : Option Addr) (c2 : Nat) (A3 : Option Addr) (c3 : Nat) : Array Value := #[.int .i64 x.spec.id, .int .i64 x.spec.res.cpu, .int .i64 x.spec.res.mem, .int .i64 x.spec.res.disk, .slice A1 x.spec.ports.length c1, .slice A2 x.spec.tasks.length c2, .int .i64 x.life, .int .i64 x.slot, .bool x.stop, .slice A3 x.tasks.length c3]
def Alloc.val (x : Alloc) (A1 : Option Addr) (c1 : Nat) (A2 : Option Addr) (c2 : Nat) (A3 : Option Addr) (c3 : Nat) : Value := .agg #[.int .i64 x.spec.id, .int .i64 x.spec.res.cpu, .int .i64 x.spec.res.mem, .int .i64 x.spec.res.disk, .slice A1 x.spec.ports.length c1, .slice A2 x.spec.tasks.length c2, .int .i64 x.life, .int .i64 x.slot, .bool x.stop, .slice A3 x.tasks.length c3]
theorem Alloc.sz : Alloc.kn.sz = 10 := rfl
structure State where
  epoch : Int
  next : Int
  lives : Int
  ack : Int
  allocs : List Alloc
def State.kn : Kn State := (((Kn.int .i64)).pair (((Kn.int .i64)).pair (((Kn.int .i64)).pair (((Kn.int .i64)).pair ((Kn.slice Alloc.kn)))))).iso fun x => (x.epoch, x.next, x.lives, x.ack, x.allocs)
theorem State.opens : Kn.Opens Tryz.prog 24 State.kn := by
  refine Kn.opens_iso (Kn.opens_struct Tryz.underlying24 (by kernel_rfl) ?_) _ (fun p => ⟨p.1, p.2.1, p.2.2.1, p.2.2.2.1, p.2.2.2.2⟩) (fun _ => rfl)
  exact (Kn.flds_cons rfl (by kernel_rfl) (Kn.opens_int Tryz.underlying3) (Kn.flds_cons rfl (by kernel_rfl) (Kn.opens_int Tryz.underlying3) (Kn.flds_cons rfl (by kernel_rfl) (Kn.opens_int Tryz.underlying3) (Kn.flds_cons rfl (by kernel_rfl) (Kn.opens_int Tryz.underlying3) (Kn.flds_one rfl (by kernel_rfl) (Kn.opens_slice Tryz.underlying22 (by kernel_rfl) Alloc.opens))))))
theorem State.form {w : World} {x : State} {cs : List Value} (h : State.kn.K w x cs) : ∃ (A1 : Option Addr) (c1 : Nat), cs = [.int .i64 x.epoch, .int .i64 x.next, .int .i64 x.lives, .int .i64 x.ack, .slice A1 x.allocs.length c1] ∧ (x.allocs.length ≤ c1 ∧ c1 ≤ maxLen) ∧ Kn.Sl Alloc.kn w A1 x.allocs := by
  obtain ⟨_, _, rfl, rfl, ⟨_, _, rfl, rfl, ⟨_, _, rfl, rfl, ⟨_, _, rfl, rfl, ⟨A1, c1, rfl, hl1, hs1⟩⟩⟩⟩⟩ := h
  exact ⟨A1, c1, rfl, hl1, hs1⟩
theorem State.mk_K {w : World} (x : State) {A1 : Option Addr} {c1 : Nat} (hl1 : x.allocs.length ≤ c1 ∧ c1 ≤ maxLen) (hs1 : Kn.Sl Alloc.kn w A1 x.allocs) : State.kn.K w x [.int .i64 x.epoch, .int .i64 x.next, .int .i64 x.lives, .int .i64 x.ack, .slice A1 x.allocs.length c1] :=
  ⟨_, _, rfl, rfl, ⟨_, _, rfl, rfl, ⟨_, _, rfl, rfl, ⟨_, _, rfl, rfl, ⟨_, _, rfl, hl1, hs1⟩⟩⟩⟩⟩
def State.cells (x : State) (A1 : Option Addr) (c1 : Nat) : Array Value := #[.int .i64 x.epoch, .int .i64 x.next, .int .i64 x.lives, .int .i64 x.ack, .slice A1 x.allocs.length c1]
def State.val (x : State) (A1 : Option Addr) (c1 : Nat) : Value := .agg #[.int .i64 x.epoch, .int .i64 x.next, .int .i64 x.lives, .int .i64 x.ack, .slice A1 x.allocs.length c1]
theorem State.sz : State.kn.sz = 5 := rfl
structure Rec where
  kind : Int
  epoch : Int
  spec : Spec
  id : Int
  task : Int
  tick : Int
  wait : Int
  pid : Int
  nonce : Int
  code : Int
def Rec.kn : Kn Rec := (((Kn.int .u8)).pair (((Kn.int .i64)).pair ((Spec.kn).pair (((Kn.int .i64)).pair (((Kn.int .i64)).pair (((Kn.int .i64)).pair (((Kn.int .i64)).pair (((Kn.int .i64)).pair (((Kn.int .i64)).pair ((Kn.int .i64))))))))))).iso fun x => (x.kind, x.epoch, x.spec, x.id, x.task, x.tick, x.wait, x.pid, x.nonce, x.code)
theorem Rec.opens : Kn.Opens Tryz.prog 41 Rec.kn := by
  refine Kn.opens_iso (Kn.opens_struct Tryz.underlying41 (by kernel_rfl) ?_) _ (fun p => ⟨p.1, p.2.1, p.2.2.1, p.2.2.2.1, p.2.2.2.2.1, p.2.2.2.2.2.1, p.2.2.2.2.2.2.1, p.2.2.2.2.2.2.2.1, p.2.2.2.2.2.2.2.2.1, p.2.2.2.2.2.2.2.2.2⟩) (fun _ => rfl)
  exact (Kn.flds_cons rfl (by kernel_rfl) (Kn.opens_int Tryz.underlying5) (Kn.flds_cons rfl (by kernel_rfl) (Kn.opens_int Tryz.underlying3) (Kn.flds_cons rfl (by kernel_rfl) Spec.opens (Kn.flds_cons rfl (by kernel_rfl) (Kn.opens_int Tryz.underlying3) (Kn.flds_cons rfl (by kernel_rfl) (Kn.opens_int Tryz.underlying3) (Kn.flds_cons rfl (by kernel_rfl) (Kn.opens_int Tryz.underlying3) (Kn.flds_cons rfl (by kernel_rfl) (Kn.opens_int Tryz.underlying3) (Kn.flds_cons rfl (by kernel_rfl) (Kn.opens_int Tryz.underlying3) (Kn.flds_cons rfl (by kernel_rfl) (Kn.opens_int Tryz.underlying3) (Kn.flds_one rfl (by kernel_rfl) (Kn.opens_int Tryz.underlying3)))))))))))
theorem Rec.form {w : World} {x : Rec} {cs : List Value} (h : Rec.kn.K w x cs) : ∃ (A1 : Option Addr) (c1 : Nat), ∃ (A2 : Option Addr) (c2 : Nat), cs = [.int .u8 x.kind, .int .i64 x.epoch, .int .i64 x.spec.id, .int .i64 x.spec.res.cpu, .int .i64 x.spec.res.mem, .int .i64 x.spec.res.disk, .slice A1 x.spec.ports.length c1, .slice A2 x.spec.tasks.length c2, .int .i64 x.id, .int .i64 x.task, .int .i64 x.tick, .int .i64 x.wait, .int .i64 x.pid, .int .i64 x.nonce, .int .i64 x.code] ∧ (x.spec.ports.length ≤ c1 ∧ c1 ≤ maxLen) ∧ Kn.Sl (Kn.int .i64) w A1 x.spec.ports ∧ (x.spec.tasks.length ≤ c2 ∧ c2 ≤ maxLen) ∧ Kn.Sl TaskSpec.kn w A2 x.spec.tasks := by
  obtain ⟨_, _, rfl, rfl, ⟨_, _, rfl, rfl, ⟨_, _, rfl, ⟨_, _, rfl, rfl, ⟨_, _, rfl, ⟨_, _, rfl, rfl, ⟨_, _, rfl, rfl, rfl⟩⟩, ⟨_, _, rfl, ⟨A1, c1, rfl, hl1, hs1⟩, ⟨A2, c2, rfl, hl2, hs2⟩⟩⟩⟩, ⟨_, _, rfl, rfl, ⟨_, _, rfl, rfl, ⟨_, _, rfl, rfl, ⟨_, _, rfl, rfl, ⟨_, _, rfl, rfl, ⟨_, _, rfl, rfl, rfl⟩⟩⟩⟩⟩⟩⟩⟩⟩ := h
  exact ⟨A1, c1, A2, c2, rfl, hl1, hs1, hl2, hs2⟩
theorem Rec.mk_K {w : World} (x : Rec) {A1 : Option Addr} {c1 : Nat} {A2 : Option Addr} {c2 : Nat} (hl1 : x.spec.ports.length ≤ c1 ∧ c1 ≤ maxLen) (hs1 : Kn.Sl (Kn.int .i64) w A1 x.spec.ports) (hl2 : x.spec.tasks.length ≤ c2 ∧ c2 ≤ maxLen) (hs2 : Kn.Sl TaskSpec.kn w A2 x.spec.tasks) : Rec.kn.K w x [.int .u8 x.kind, .int .i64 x.epoch, .int .i64 x.spec.id, .int .i64 x.spec.res.cpu, .int .i64 x.spec.res.mem, .int .i64 x.spec.res.disk, .slice A1 x.spec.ports.length c1, .slice A2 x.spec.tasks.length c2, .int .i64 x.id, .int .i64 x.task, .int .i64 x.tick, .int .i64 x.wait, .int .i64 x.pid, .int .i64 x.nonce, .int .i64 x.code] :=
  ⟨_, _, rfl, rfl, ⟨_, _, rfl, rfl, ⟨_, _, rfl, ⟨_, _, rfl, rfl, ⟨_, _, rfl, ⟨_, _, rfl, rfl, ⟨_, _, rfl, rfl, rfl⟩⟩, ⟨_, _, rfl, ⟨_, _, rfl, hl1, hs1⟩, ⟨_, _, rfl, hl2, hs2⟩⟩⟩⟩, ⟨_, _, rfl, rfl, ⟨_, _, rfl, rfl, ⟨_, _, rfl, rfl, ⟨_, _, rfl, rfl, ⟨_, _, rfl, rfl, ⟨_, _, rfl, rfl, rfl⟩⟩⟩⟩⟩⟩⟩⟩⟩
def Rec.cells (x : Rec) (A1 : Option Addr) (c1 : Nat) (A2 : Option Addr) (c2 : Nat) : Array Value := #[.int .u8 x.kind, .int .i64 x.epoch, .int .i64 x.spec.id, .int .i64 x.spec.res.cpu, .int .i64 x.spec.res.mem, .int .i64 x.spec.res.disk, .slice A1 x.spec.ports.length c1, .slice A2 x.spec.tasks.length c2, .int .i64 x.id, .int .i64 x.task, .int .i64 x.tick, .int .i64 x.wait, .int .i64 x.pid, .int .i64 x.nonce, .int .i64 x.code]
def Rec.val (x : Rec) (A1 : Option Addr) (c1 : Nat) (A2 : Option Addr) (c2 : Nat) : Value := .agg #[.int .u8 x.kind, .int .i64 x.epoch, .int .i64 x.spec.id, .int .i64 x.spec.res.cpu, .int .i64 x.spec.res.mem, .int .i64 x.spec.res.disk, .slice A1 x.spec.ports.length c1, .slice A2 x.spec.tasks.length c2, .int .i64 x.id, .int .i64 x.task, .int .i64 x.tick, .int .i64 x.wait, .int .i64 x.pid, .int .i64 x.nonce, .int .i64 x.code]
theorem Rec.sz : Rec.kn.sz = 15 := rfl
structure Proc where
  pid : Int
  nonce : Int
  token : Token
  alive : Bool
  term : Bool
  kill : Bool
  code : Int
def Proc.kn : Kn Proc := (((Kn.int .i64)).pair (((Kn.int .i64)).pair ((Token.kn).pair ((Kn.bool).pair ((Kn.bool).pair ((Kn.bool).pair ((Kn.int .i64)))))))).iso fun x => (x.pid, x.nonce, x.token, x.alive, x.term, x.kill, x.code)
theorem Proc.opens : Kn.Opens Tryz.prog 85 Proc.kn := by
  refine Kn.opens_iso (Kn.opens_struct Tryz.underlying85 (by kernel_rfl) ?_) _ (fun p => ⟨p.1, p.2.1, p.2.2.1, p.2.2.2.1, p.2.2.2.2.1, p.2.2.2.2.2.1, p.2.2.2.2.2.2⟩) (fun _ => rfl)
  exact (Kn.flds_cons rfl (by kernel_rfl) (Kn.opens_int Tryz.underlying3) (Kn.flds_cons rfl (by kernel_rfl) (Kn.opens_int Tryz.underlying3) (Kn.flds_cons rfl (by kernel_rfl) Token.opens (Kn.flds_cons rfl (by kernel_rfl) (Kn.opens_bool Tryz.underlying4) (Kn.flds_cons rfl (by kernel_rfl) (Kn.opens_bool Tryz.underlying4) (Kn.flds_cons rfl (by kernel_rfl) (Kn.opens_bool Tryz.underlying4) (Kn.flds_one rfl (by kernel_rfl) (Kn.opens_int Tryz.underlying3))))))))
theorem Proc.form {w : World} {x : Proc} {cs : List Value} (h : Proc.kn.K w x cs) : cs = [.int .i64 x.pid, .int .i64 x.nonce, .int .i64 x.token.alloc, .int .i64 x.token.task, .int .i64 x.token.inc, .bool x.alive, .bool x.term, .bool x.kill, .int .i64 x.code] := by
  obtain ⟨_, _, rfl, rfl, ⟨_, _, rfl, rfl, ⟨_, _, rfl, ⟨_, _, rfl, rfl, ⟨_, _, rfl, rfl, rfl⟩⟩, ⟨_, _, rfl, rfl, ⟨_, _, rfl, rfl, ⟨_, _, rfl, rfl, rfl⟩⟩⟩⟩⟩⟩ := h
  rfl
theorem Proc.mk_K {w : World} (x : Proc)  : Proc.kn.K w x [.int .i64 x.pid, .int .i64 x.nonce, .int .i64 x.token.alloc, .int .i64 x.token.task, .int .i64 x.token.inc, .bool x.alive, .bool x.term, .bool x.kill, .int .i64 x.code] :=
  ⟨_, _, rfl, rfl, ⟨_, _, rfl, rfl, ⟨_, _, rfl, ⟨_, _, rfl, rfl, ⟨_, _, rfl, rfl, rfl⟩⟩, ⟨_, _, rfl, rfl, ⟨_, _, rfl, rfl, ⟨_, _, rfl, rfl, rfl⟩⟩⟩⟩⟩⟩
def Proc.cells (x : Proc) : Array Value := #[.int .i64 x.pid, .int .i64 x.nonce, .int .i64 x.token.alloc, .int .i64 x.token.task, .int .i64 x.token.inc, .bool x.alive, .bool x.term, .bool x.kill, .int .i64 x.code]
def Proc.val (x : Proc) : Value := .agg #[.int .i64 x.pid, .int .i64 x.nonce, .int .i64 x.token.alloc, .int .i64 x.token.task, .int .i64 x.token.inc, .bool x.alive, .bool x.term, .bool x.kill, .int .i64 x.code]
theorem Proc.sz : Proc.kn.sz = 9 := rfl
structure Look where
  now : Int
  expired : Bool
  fenced : Bool
  sick : Bool
  has : Bool
  proc : Proc
  other : Bool
def Look.kn : Kn Look := (((Kn.int .i64)).pair ((Kn.bool).pair ((Kn.bool).pair ((Kn.bool).pair ((Kn.bool).pair ((Proc.kn).pair (Kn.bool))))))).iso fun x => (x.now, x.expired, x.fenced, x.sick, x.has, x.proc, x.other)
theorem Look.opens : Kn.Opens Tryz.prog 87 Look.kn := by
  refine Kn.opens_iso (Kn.opens_struct Tryz.underlying87 (by kernel_rfl) ?_) _ (fun p => ⟨p.1, p.2.1, p.2.2.1, p.2.2.2.1, p.2.2.2.2.1, p.2.2.2.2.2.1, p.2.2.2.2.2.2⟩) (fun _ => rfl)
  exact (Kn.flds_cons rfl (by kernel_rfl) (Kn.opens_int Tryz.underlying3) (Kn.flds_cons rfl (by kernel_rfl) (Kn.opens_bool Tryz.underlying4) (Kn.flds_cons rfl (by kernel_rfl) (Kn.opens_bool Tryz.underlying4) (Kn.flds_cons rfl (by kernel_rfl) (Kn.opens_bool Tryz.underlying4) (Kn.flds_cons rfl (by kernel_rfl) (Kn.opens_bool Tryz.underlying4) (Kn.flds_cons rfl (by kernel_rfl) Proc.opens (Kn.flds_one rfl (by kernel_rfl) (Kn.opens_bool Tryz.underlying4))))))))
theorem Look.form {w : World} {x : Look} {cs : List Value} (h : Look.kn.K w x cs) : cs = [.int .i64 x.now, .bool x.expired, .bool x.fenced, .bool x.sick, .bool x.has, .int .i64 x.proc.pid, .int .i64 x.proc.nonce, .int .i64 x.proc.token.alloc, .int .i64 x.proc.token.task, .int .i64 x.proc.token.inc, .bool x.proc.alive, .bool x.proc.term, .bool x.proc.kill, .int .i64 x.proc.code, .bool x.other] := by
  obtain ⟨_, _, rfl, rfl, ⟨_, _, rfl, rfl, ⟨_, _, rfl, rfl, ⟨_, _, rfl, rfl, ⟨_, _, rfl, rfl, ⟨_, _, rfl, ⟨_, _, rfl, rfl, ⟨_, _, rfl, rfl, ⟨_, _, rfl, ⟨_, _, rfl, rfl, ⟨_, _, rfl, rfl, rfl⟩⟩, ⟨_, _, rfl, rfl, ⟨_, _, rfl, rfl, ⟨_, _, rfl, rfl, rfl⟩⟩⟩⟩⟩⟩, rfl⟩⟩⟩⟩⟩⟩ := h
  rfl
theorem Look.mk_K {w : World} (x : Look)  : Look.kn.K w x [.int .i64 x.now, .bool x.expired, .bool x.fenced, .bool x.sick, .bool x.has, .int .i64 x.proc.pid, .int .i64 x.proc.nonce, .int .i64 x.proc.token.alloc, .int .i64 x.proc.token.task, .int .i64 x.proc.token.inc, .bool x.proc.alive, .bool x.proc.term, .bool x.proc.kill, .int .i64 x.proc.code, .bool x.other] :=
  ⟨_, _, rfl, rfl, ⟨_, _, rfl, rfl, ⟨_, _, rfl, rfl, ⟨_, _, rfl, rfl, ⟨_, _, rfl, rfl, ⟨_, _, rfl, ⟨_, _, rfl, rfl, ⟨_, _, rfl, rfl, ⟨_, _, rfl, ⟨_, _, rfl, rfl, ⟨_, _, rfl, rfl, rfl⟩⟩, ⟨_, _, rfl, rfl, ⟨_, _, rfl, rfl, ⟨_, _, rfl, rfl, rfl⟩⟩⟩⟩⟩⟩, rfl⟩⟩⟩⟩⟩⟩
def Look.cells (x : Look) : Array Value := #[.int .i64 x.now, .bool x.expired, .bool x.fenced, .bool x.sick, .bool x.has, .int .i64 x.proc.pid, .int .i64 x.proc.nonce, .int .i64 x.proc.token.alloc, .int .i64 x.proc.token.task, .int .i64 x.proc.token.inc, .bool x.proc.alive, .bool x.proc.term, .bool x.proc.kill, .int .i64 x.proc.code, .bool x.other]
def Look.val (x : Look) : Value := .agg #[.int .i64 x.now, .bool x.expired, .bool x.fenced, .bool x.sick, .bool x.has, .int .i64 x.proc.pid, .int .i64 x.proc.nonce, .int .i64 x.proc.token.alloc, .int .i64 x.proc.token.task, .int .i64 x.proc.token.inc, .bool x.proc.alive, .bool x.proc.term, .bool x.proc.kill, .int .i64 x.proc.code, .bool x.other]
theorem Look.sz : Look.kn.sz = 15 := rfl
structure Step where
  do_ : Int
  code : Int
def Step.kn : Kn Step := (((Kn.int .u8)).pair ((Kn.int .i64))).iso fun x => (x.do_, x.code)
theorem Step.opens : Kn.Opens Tryz.prog 91 Step.kn := by
  refine Kn.opens_iso (Kn.opens_struct Tryz.underlying91 (by kernel_rfl) ?_) _ (fun p => ⟨p.1, p.2⟩) (fun _ => rfl)
  exact (Kn.flds_cons rfl (by kernel_rfl) (Kn.opens_int Tryz.underlying5) (Kn.flds_one rfl (by kernel_rfl) (Kn.opens_int Tryz.underlying3)))
theorem Step.form {w : World} {x : Step} {cs : List Value} (h : Step.kn.K w x cs) : cs = [.int .u8 x.do_, .int .i64 x.code] := by
  obtain ⟨_, _, rfl, rfl, rfl⟩ := h
  rfl
theorem Step.mk_K {w : World} (x : Step)  : Step.kn.K w x [.int .u8 x.do_, .int .i64 x.code] :=
  ⟨_, _, rfl, rfl, rfl⟩
def Step.cells (x : Step) : Array Value := #[.int .u8 x.do_, .int .i64 x.code]
def Step.val (x : Step) : Value := .agg #[.int .u8 x.do_, .int .i64 x.code]
theorem Step.sz : Step.kn.sz = 2 := rfl
end Go.Proofs.YtdblhmpcilihnaaGreat
