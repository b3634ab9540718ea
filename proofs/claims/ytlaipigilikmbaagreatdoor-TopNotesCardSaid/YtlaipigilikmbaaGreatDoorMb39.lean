/- Texts of this seat,put together: Told. -/
import Derived.Test.YtlaipigilikmbaaGreatDoorMb1
import Derived.Test.YtlaipigilikmbaaGreatDoorChecked
import Derived.LaidEql
import Derived.Stop.Asserts
import Derived.RowKitTokens
namespace Go.Proofs.YtlaipigilikmbaaGreatDoor
noncomputable section
set_option linter.unusedVariables false
set_option linter.unusedSimpArgs false
namespace ToldW
open RowKit Go.Extern.Stop Go.Stop Go.Extern
def ErrT(w:World):Prop:=w.cell? ⟨0,0,none⟩=some (.iface 161 (.agg #[.pointer (some ⟨2,29,none⟩)]))
theorem ErrT.lt{w:World}(h:ErrT w):0<w.heap.size:=World.block_lt_of_cell? w _ h
theorem ErrT.below{w w':World}{B:Nat}(h:ErrT w)(hb:Below B w w')(hB:w.heap.size≤B):ErrT w':=by
 unfold ErrT at h⊢;rw[World.cell?_of_block (w:=w) (hb.block _ (Nat.lt_of_lt_of_le (World.block_lt_of_cell? w _ h) hB))];exact h
theorem rlm(z:Sem Value)(f:TypeId→Addr→Nat→Nat→Sem Value)(v:Value) :
 ReflectliteValue.method z f #[v]=(do match ←ReflectliteValue.parts v with|none=>z|some (t,a,fl)=>f t a fl (fl%32)):=rfl
theorem rls(v x:Value):ReflectliteValue.set #[v,x]=(do
 let (some (dst,a,fl),some (src,b,_)):=(←ReflectliteValue.parts v,←ReflectliteValue.parts x)
  |unsupported (.noEntry "extern/(internal/reflectlite.Value).Set.zeroValue")
 if fl / ReflectliteValue.flagAddr%2==0 then unsupported (.noEntry "extern/(internal/reflectlite.Value).Set.unaddressable")
 let val ←loadVar src b
 if ←Rtype.directlyAssignable dst src then storeVar dst a val
 else if ←Rtype.implements dst src then
  if (←Rtype.kind src)==20 then
   match val with
   |.nilIface=>unsupported (.noEntry "extern/reflectlite: a nil value of one interface type handed on as a value of another")
   |_=>storeVar dst a val
  else storeVar dst a (.iface src val)
 else panicString ("reflectlite.Set: value of type "++(←Rtype.spelt src)++ " is not assignable to type "++(←Rtype.spelt dst))
 pure (.tuple #[])):=rfl
end ToldW
