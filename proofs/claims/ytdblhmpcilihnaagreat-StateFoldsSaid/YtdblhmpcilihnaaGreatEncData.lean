/- The program's data in the engine's values: written by gen_enc.py. -/
import Derived.Test.YtdblhmpcilihnaaGreatEnc
import Derived.Test.YtdblhmpcilihnaaGreatData
namespace Go.Proofs.YtdblhmpcilihnaaGreat
open Go.RowKit E
instance : Inhabited Res := ⟨⟨0, 0, 0⟩⟩
def Res.fv (x : Res) : List FV := [.val (.int .i64 x.cpu), .val (.int .i64 x.mem), .val (.int .i64 x.disk)]
def Res.av (x : Res) : AV := .agg [.val (.int .i64 x.cpu), .val (.int .i64 x.mem), .val (.int .i64 x.disk)]
theorem Res.enc : Enc Res.kn Res.fv := Enc.iso (Enc.pair (Enc.int .i64) (Enc.pair (Enc.int .i64) (Enc.int .i64))) _
instance : Inhabited Policy := ⟨⟨false, 0, 0, 0, 0⟩⟩
def Policy.fv (x : Policy) : List FV := [.val (.bool x.always), .val (.int .i64 x.limit), .val (.int .i64 x.window), .val (.int .i64 x.base), .val (.int .i64 x.most)]
def Policy.av (x : Policy) : AV := .agg [.val (.bool x.always), .val (.int .i64 x.limit), .val (.int .i64 x.window), .val (.int .i64 x.base), .val (.int .i64 x.most)]
theorem Policy.enc : Enc Policy.kn Policy.fv := Enc.iso (Enc.pair Enc.bool (Enc.pair (Enc.int .i64) (Enc.pair (Enc.int .i64) (Enc.pair (Enc.int .i64) (Enc.int .i64))))) _
instance : Inhabited TaskSpec := ⟨⟨default, 0⟩⟩
def TaskSpec.fv (x : TaskSpec) : List FV := [.val (.bool x.policy.always), .val (.int .i64 x.policy.limit), .val (.int .i64 x.policy.window), .val (.int .i64 x.policy.base), .val (.int .i64 x.policy.most), .val (.int .i64 x.probes)]
def TaskSpec.av (x : TaskSpec) : AV := .agg [.val (.bool x.policy.always), .val (.int .i64 x.policy.limit), .val (.int .i64 x.policy.window), .val (.int .i64 x.policy.base), .val (.int .i64 x.policy.most), .val (.int .i64 x.probes)]
theorem TaskSpec.enc : Enc TaskSpec.kn TaskSpec.fv := Enc.iso (Enc.pair Policy.enc (Enc.int .i64)) _
instance : Inhabited Spec := ⟨⟨0, default, [], []⟩⟩
def Spec.fv (x : Spec) : List FV := [.val (.int .i64 x.id), .val (.int .i64 x.res.cpu), .val (.int .i64 x.res.mem), .val (.int .i64 x.res.disk), .sl 1 x.ports.length fun i => [.val (.int .i64 (x.ports.getD i 0))], .sl 6 x.tasks.length fun i => TaskSpec.fv (x.tasks.getD i default)]
def Spec.av (x : Spec) : AV := .agg [.val (.int .i64 x.id), .val (.int .i64 x.res.cpu), .val (.int .i64 x.res.mem), .val (.int .i64 x.res.disk), .sl 1 x.ports.length fun i => [.val (.int .i64 (x.ports.getD i 0))], .sl 6 x.tasks.length fun i => TaskSpec.fv (x.tasks.getD i default)]
theorem Spec.enc : Enc Spec.kn Spec.fv := Enc.iso (Enc.pair (Enc.int .i64) (Enc.pair Res.enc (Enc.pair (Enc.slice (Enc.int .i64) (by decide)) (Enc.slice TaskSpec.enc (by decide))))) _
instance : Inhabited Config := ⟨⟨default, 0, 0, 0, 0, 0, 0, 0, 0⟩⟩
def Config.fv (x : Config) : List FV := [.val (.int .i64 x.cap.cpu), .val (.int .i64 x.cap.mem), .val (.int .i64 x.cap.disk), .val (.int .i64 x.allocs), .val (.int .i64 x.area), .val (.int .i64 x.files), .val (.int .i64 x.blocks), .val (.int .i64 x.beat), .val (.int .i64 x.lease), .val (.int .i64 x.grace), .val (.int .i64 x.wait)]
def Config.av (x : Config) : AV := .agg [.val (.int .i64 x.cap.cpu), .val (.int .i64 x.cap.mem), .val (.int .i64 x.cap.disk), .val (.int .i64 x.allocs), .val (.int .i64 x.area), .val (.int .i64 x.files), .val (.int .i64 x.blocks), .val (.int .i64 x.beat), .val (.int .i64 x.lease), .val (.int .i64 x.grace), .val (.int .i64 x.wait)]
theorem Config.enc : Enc Config.kn Config.fv := Enc.iso (Enc.pair Res.enc (Enc.pair (Enc.int .i64) (Enc.pair (Enc.int .i64) (Enc.pair (Enc.int .i64) (Enc.pair (Enc.int .i64) (Enc.pair (Enc.int .i64) (Enc.pair (Enc.int .i64) (Enc.pair (Enc.int .i64) (Enc.int .i64))))))))) _
instance : Inhabited Token := ⟨⟨0, 0, 0⟩⟩
def Token.fv (x : Token) : List FV := [.val (.int .i64 x.alloc), .val (.int .i64 x.task), .val (.int .i64 x.inc)]
def Token.av (x : Token) : AV := .agg [.val (.int .i64 x.alloc), .val (.int .i64 x.task), .val (.int .i64 x.inc)]
theorem Token.enc : Enc Token.kn Token.fv := Enc.iso (Enc.pair (Enc.int .i64) (Enc.pair (Enc.int .i64) (Enc.int .i64))) _
instance : Inhabited Task := ⟨⟨0, 0, 0, 0, 0, 0, 0, []⟩⟩
def Task.fv (x : Task) : List FV := [.val (.int .u8 x.state), .val (.int .i64 x.inc), .val (.int .i64 x.pid), .val (.int .i64 x.nonce), .val (.int .i64 x.due), .val (.int .i64 x.until_), .val (.int .i64 x.code), .sl 1 x.starts.length fun i => [.val (.int .i64 (x.starts.getD i 0))]]
def Task.av (x : Task) : AV := .agg [.val (.int .u8 x.state), .val (.int .i64 x.inc), .val (.int .i64 x.pid), .val (.int .i64 x.nonce), .val (.int .i64 x.due), .val (.int .i64 x.until_), .val (.int .i64 x.code), .sl 1 x.starts.length fun i => [.val (.int .i64 (x.starts.getD i 0))]]
theorem Task.enc : Enc Task.kn Task.fv := Enc.iso (Enc.pair (Enc.int .u8) (Enc.pair (Enc.int .i64) (Enc.pair (Enc.int .i64) (Enc.pair (Enc.int .i64) (Enc.pair (Enc.int .i64) (Enc.pair (Enc.int .i64) (Enc.pair (Enc.int .i64) (Enc.slice (Enc.int .i64) (by decide))))))))) _
instance : Inhabited Alloc := ⟨⟨default, 0, 0, false, []⟩⟩
def Alloc.fv (x : Alloc) : List FV := [.val (.int .i64 x.spec.id), .val (.int .i64 x.spec.res.cpu), .val (.int .i64 x.spec.res.mem), .val (.int .i64 x.spec.res.disk), .sl 1 x.spec.ports.length fun i => [.val (.int .i64 (x.spec.ports.getD i 0))], .sl 6 x.spec.tasks.length fun i => TaskSpec.fv (x.spec.tasks.getD i default), .val (.int .i64 x.life), .val (.int .i64 x.slot), .val (.bool x.stop), .sl 8 x.tasks.length fun i => Task.fv (x.tasks.getD i default)]
def Alloc.av (x : Alloc) : AV := .agg [.val (.int .i64 x.spec.id), .val (.int .i64 x.spec.res.cpu), .val (.int .i64 x.spec.res.mem), .val (.int .i64 x.spec.res.disk), .sl 1 x.spec.ports.length fun i => [.val (.int .i64 (x.spec.ports.getD i 0))], .sl 6 x.spec.tasks.length fun i => TaskSpec.fv (x.spec.tasks.getD i default), .val (.int .i64 x.life), .val (.int .i64 x.slot), .val (.bool x.stop), .sl 8 x.tasks.length fun i => Task.fv (x.tasks.getD i default)]
theorem Alloc.enc : Enc Alloc.kn Alloc.fv := Enc.iso (Enc.pair Spec.enc (Enc.pair (Enc.int .i64) (Enc.pair (Enc.int .i64) (Enc.pair Enc.bool (Enc.slice Task.enc (by decide)))))) _
instance : Inhabited State := ⟨⟨0, 0, 0, 0, []⟩⟩
def State.fv (x : State) : List FV := [.val (.int .i64 x.epoch), .val (.int .i64 x.next), .val (.int .i64 x.lives), .val (.int .i64 x.ack), .sl 10 x.allocs.length fun i => Alloc.fv (x.allocs.getD i default)]
def State.av (x : State) : AV := .agg [.val (.int .i64 x.epoch), .val (.int .i64 x.next), .val (.int .i64 x.lives), .val (.int .i64 x.ack), .sl 10 x.allocs.length fun i => Alloc.fv (x.allocs.getD i default)]
theorem State.enc : Enc State.kn State.fv := Enc.iso (Enc.pair (Enc.int .i64) (Enc.pair (Enc.int .i64) (Enc.pair (Enc.int .i64) (Enc.pair (Enc.int .i64) (Enc.slice Alloc.enc (by decide)))))) _
instance : Inhabited Rec := ⟨⟨0, 0, default, 0, 0, 0, 0, 0, 0, 0⟩⟩
def Rec.fv (x : Rec) : List FV := [.val (.int .u8 x.kind), .val (.int .i64 x.epoch), .val (.int .i64 x.spec.id), .val (.int .i64 x.spec.res.cpu), .val (.int .i64 x.spec.res.mem), .val (.int .i64 x.spec.res.disk), .sl 1 x.spec.ports.length fun i => [.val (.int .i64 (x.spec.ports.getD i 0))], .sl 6 x.spec.tasks.length fun i => TaskSpec.fv (x.spec.tasks.getD i default), .val (.int .i64 x.id), .val (.int .i64 x.task), .val (.int .i64 x.tick), .val (.int .i64 x.wait), .val (.int .i64 x.pid), .val (.int .i64 x.nonce), .val (.int .i64 x.code)]
def Rec.av (x : Rec) : AV := .agg [.val (.int .u8 x.kind), .val (.int .i64 x.epoch), .val (.int .i64 x.spec.id), .val (.int .i64 x.spec.res.cpu), .val (.int .i64 x.spec.res.mem), .val (.int .i64 x.spec.res.disk), .sl 1 x.spec.ports.length fun i => [.val (.int .i64 (x.spec.ports.getD i 0))], .sl 6 x.spec.tasks.length fun i => TaskSpec.fv (x.spec.tasks.getD i default), .val (.int .i64 x.id), .val (.int .i64 x.task), .val (.int .i64 x.tick), .val (.int .i64 x.wait), .val (.int .i64 x.pid), .val (.int .i64 x.nonce), .val (.int .i64 x.code)]
theorem Rec.enc : Enc Rec.kn Rec.fv := Enc.iso (Enc.pair (Enc.int .u8) (Enc.pair (Enc.int .i64) (Enc.pair Spec.enc (Enc.pair (Enc.int .i64) (Enc.pair (Enc.int .i64) (Enc.pair (Enc.int .i64) (Enc.pair (Enc.int .i64) (Enc.pair (Enc.int .i64) (Enc.pair (Enc.int .i64) (Enc.int .i64)))))))))) _
instance : Inhabited Proc := ⟨⟨0, 0, default, false, false, false, 0⟩⟩
def Proc.fv (x : Proc) : List FV := [.val (.int .i64 x.pid), .val (.int .i64 x.nonce), .val (.int .i64 x.token.alloc), .val (.int .i64 x.token.task), .val (.int .i64 x.token.inc), .val (.bool x.alive), .val (.bool x.term), .val (.bool x.kill), .val (.int .i64 x.code)]
def Proc.av (x : Proc) : AV := .agg [.val (.int .i64 x.pid), .val (.int .i64 x.nonce), .val (.int .i64 x.token.alloc), .val (.int .i64 x.token.task), .val (.int .i64 x.token.inc), .val (.bool x.alive), .val (.bool x.term), .val (.bool x.kill), .val (.int .i64 x.code)]
theorem Proc.enc : Enc Proc.kn Proc.fv := Enc.iso (Enc.pair (Enc.int .i64) (Enc.pair (Enc.int .i64) (Enc.pair Token.enc (Enc.pair Enc.bool (Enc.pair Enc.bool (Enc.pair Enc.bool (Enc.int .i64))))))) _
instance : Inhabited Look := ⟨⟨0, false, false, false, false, default, false⟩⟩
def Look.fv (x : Look) : List FV := [.val (.int .i64 x.now), .val (.bool x.expired), .val (.bool x.fenced), .val (.bool x.sick), .val (.bool x.has), .val (.int .i64 x.proc.pid), .val (.int .i64 x.proc.nonce), .val (.int .i64 x.proc.token.alloc), .val (.int .i64 x.proc.token.task), .val (.int .i64 x.proc.token.inc), .val (.bool x.proc.alive), .val (.bool x.proc.term), .val (.bool x.proc.kill), .val (.int .i64 x.proc.code), .val (.bool x.other)]
def Look.av (x : Look) : AV := .agg [.val (.int .i64 x.now), .val (.bool x.expired), .val (.bool x.fenced), .val (.bool x.sick), .val (.bool x.has), .val (.int .i64 x.proc.pid), .val (.int .i64 x.proc.nonce), .val (.int .i64 x.proc.token.alloc), .val (.int .i64 x.proc.token.task), .val (.int .i64 x.proc.token.inc), .val (.bool x.proc.alive), .val (.bool x.proc.term), .val (.bool x.proc.kill), .val (.int .i64 x.proc.code), .val (.bool x.other)]
theorem Look.enc : Enc Look.kn Look.fv := Enc.iso (Enc.pair (Enc.int .i64) (Enc.pair Enc.bool (Enc.pair Enc.bool (Enc.pair Enc.bool (Enc.pair Enc.bool (Enc.pair Proc.enc Enc.bool)))))) _
instance : Inhabited Step := ⟨⟨0, 0⟩⟩
def Step.fv (x : Step) : List FV := [.val (.int .u8 x.do_), .val (.int .i64 x.code)]
def Step.av (x : Step) : AV := .agg [.val (.int .u8 x.do_), .val (.int .i64 x.code)]
theorem Step.enc : Enc Step.kn Step.fv := Enc.iso (Enc.pair (Enc.int .u8) (Enc.int .i64)) _
end Go.Proofs.YtdblhmpcilihnaaGreat
