/- Part PR1 of the proof: contracts of functions of the program, each walked once. -/
import Derived.Test.YtnmkmfancgcaeaaGreatDoorPD5
import Derived.Test.YtnmkmfancgcaeaaGreatDoorPD12
set_option linter.all false
namespace Go.Gv
open Go.Av Go.Proofs Go.RowKit
set_option maxRecDepth 100000
set_option maxHeartbeats 4000000
mutual
def Ex.o:Ex->List T
 | .mk k n s l=>[.lit (.int .i64 k),.lit (.int .i64 n),.lit (.string s),.own (Ex.os l)]
def Ex.os:List Ex->List (List T)
 | []=>[]
 | e::l=>Ex.o e::Ex.os l
end
theorem Ex.os_map:∀l,Ex.os l=l.map Ex.o
 | []=>rfl
 | e::l=>by rw[Ex.os,Ex.os_map l];rfl
theorem Ex.o_eq (e:Ex):e.o=[.lit (.int .i64 e.k),.lit (.int .i64 e.n),.lit (.string e.s),.own (e.l.map Ex.o)]:=by cases e;rw[Ex.o,Ex.os_map];rfl
theorem Ex.o_len (e:Ex):e.o.length=4:=by rw[Ex.o_eq];rfl
theorem zK1 {k n:Int} {s:ByteArray} {l:List Ex} (h:(Ex.mk k n s l).sz<=1048576):l.length<=1048576/\∀x∈l,x.sz<=1048576:=by
 rw[Ex.sz] at h;exact ⟨by omega,fun x hx=>by obtain ⟨p,q,rfl⟩:=List.append_of_mem hx;rw[Ex.szs_app,Ex.szs] at h;omega⟩
open Go.Av Go.Proofs
set_option maxRecDepth 10000
set_option maxHeartbeats 8000000
variable {I:∀{α:Type},α->α}
def kkS (t k:Nat):Root->Nat->Option Nat:=fun r _=>match r with | .slot u=>if u=t then some k else none | _=>none
end Go.Gv
