import Derived.Test.YtddfkpkieamlpaaGreatDoorQz0
import Derived.WalkKit
namespace Go.Qz
open Go.Proofs Go.RowKit
theorem zxj(a:Option Addr)(n cap:Nat)(hn:n<=2000)(w:World):Calls Tryz.prog 52 #[.slice a n cap] w λe w' =>e=.returned (.pointer (some ⟨w.heap.size,0,none⟩))/\w' =w.alloc (.cells #[.slice a n cap,.int .i64 0] 137):=by
 have h1:¬(2000:Int)<n:=by omega
 go_enter Tryz.func52,Tryz.ntmps52
 go_wp2
 go_ret
 exact⟨rfl,rfl⟩
theorem z1m(a:Option Addr)(n cap:Nat)(hn:2000<n)(hc:n<=cap)(w:World):Calls Tryz.prog 52 #[.slice a n cap] w λe w' =>e=.returned (.pointer (some ⟨w.heap.size,0,none⟩))/\w' =w.alloc (.cells #[.slice a 2000 cap,.int .i64 0] 137):=by
 have h1:(2000:Int)<n:=by omega
 have h2:(2000:Int)<=cap:=by omega
 have h3:(2000:Nat)<=cap:=by omega
 go_enter Tryz.func52,Tryz.ntmps52
 go_wp2
 go_ret
 exact⟨rfl,rfl⟩
end Go.Qz
