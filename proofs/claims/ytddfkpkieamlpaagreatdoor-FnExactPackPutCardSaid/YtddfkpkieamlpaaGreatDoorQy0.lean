import Derived.Test.YtddfkpkieamlpaaGreatDoorQw0
import Derived.Lib.SplitLaws
import Derived.Lib.CutLaws
namespace Go.Qz
open Go.Proofs
variable{P:Program}
def zkp(fi:FuncId):zai:=λf us bx=>if f=fi then(match us,bx with
    | [.ro (.str s),.ro (.str t)],[]=>if s.size<4294967281&&decide (1<=t.size)then some (.one (.own (.sl 1 ((Lib.splitB t 0 (Lib.countB s t) s).map .str))),[])else none
    |_,_=>none)else none
theorem zrq[Base]{fi:FuncId}{k:Nat}{el:TypeId}(hb:zb0 P fi)(hT:∃m:Int,Base.W0.cell? ⟨k,0,none⟩=some (.int .i64 m))
 (hc:∀(s t:ByteArray) (m:Int) (w:World),s.size<4294967281->w.cell? ⟨k,0,none⟩=some (.int .i64 m)->1<=t.size->Calls P fi #[.string s,.string t] w λe w' =>
  e=.returned (.slice (some ⟨w.heap.size,0,none⟩) (Lib.countB s t+1) (Lib.countB s t+1))/\w' =w.alloc (.cells ((Lib.splitB t 0 (Lib.countB s t) s).map Value.string).toArray el)):zav P (zkp fi):=by
 intro f us bx r bx' h;unfold zkp at h;split at h
 ·rename_i hf;subst hf;split at h
  ·rename_i s t;split at h
   ·rename_i hq;simp only[Bool.and_eq_true,decide_eq_true_eq]at hq;obtain⟨h1,h2⟩:=hq;simp only[Option.some.injEq,Prod.mk.injEq]at h;obtain⟨rfl,rfl⟩:=h;refine⟨hb,λg w vs hsz hs=>?_⟩
    have e:=zck (ds:=[.str s,.str t]) hs hsz rfl;obtain⟨m,hm⟩:=hT;have hm':w.cell? ⟨k,0,none⟩=some (.int .i64 m):=zpi hs hm;subst e;refine(hc s t m w h1 hm' h2).mono ?_;rintro en w' ⟨rfl,rfl⟩;have hle:=Lib.countB_le t h2 s.size s (Nat.le_refl _);have hlen:=Lib.splitB_all t h2 0 _ s rfl;rw[<-hlen,<-Lib.cellsOf_full];exact⟨_,rfl,g,_,zn8 hs (zvk w el _ _ (Nat.le_refl _) (by unfold maxLen;omega))⟩
   ·cases h
  ·cases h
 ·cases h
end Go.Qz
