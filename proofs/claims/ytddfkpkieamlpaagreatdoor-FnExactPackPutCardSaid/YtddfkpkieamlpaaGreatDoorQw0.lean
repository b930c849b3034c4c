import Derived.Test.YtddfkpkieamlpaaGreatDoorQu0
import Derived.Lib.Join
import Derived.Lib.IndexAny
namespace Go.Qz
open Go.RowKit (Below)
variable{P:Program}
def xAny(fi:FuncId):zai:=λf us bx=>if f=fi then(match us,bx with
    | [.ro (.str s),.ro (.str t)],[]=>if decide (s.size<4294967281)&&decide (2<=t.size)&&decide (t.size<=8)&&t.data.toList.all (λb=>decide (b.toNat<128))then some (.one (.ro (.int .i64 (Lib.indexAny s.data.toList t.data.toList))),[])else none
    |_,_=>none)else none
theorem zxi[Base]{fi:FuncId}(hb:zb0 P fi)
 (hc:∀(s t:ByteArray) (w:World),s.size<4294967281->2<=t.size->t.size<=8->(∀(j:Nat) b,t.data.toList[j]? =some b->b.toNat<128)->Calls P fi #[.string s,.string t] w λe w' =>e=.returned (.int .i64 (Lib.indexAny s.data.toList t.data.toList))/\Below w.heap.size w w'):zav P (xAny fi):=by
 intro f us bx r bx' h;unfold xAny at h;split at h
 ·rename_i hf;subst hf;split at h
  ·rename_i s t;split at h
   ·rename_i hq;simp only[Bool.and_eq_true,decide_eq_true_eq,List.all_eq_true]at hq;obtain⟨⟨⟨h1,h2⟩,h3⟩,h4⟩:=hq;simp only[Option.some.injEq,Prod.mk.injEq]at h;obtain⟨rfl,rfl⟩:=h;refine⟨hb,λg w vs hsz hs=>?_⟩
    have e:=zck (ds:=[.str s,.str t]) hs hsz rfl;subst e;refine(hc s t w h1 h2 h3 (λj b hj=>h4 b (List.mem_of_getElem? hj))).mono ?_
    rintro en w' ⟨rfl,hbw⟩;exact⟨_,rfl,g,_,zfk hs hbw (RO.int _ _)⟩
   ·cases h
  ·cases h
 ·cases h
end Go.Qz
