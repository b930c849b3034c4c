import Derived.Test.YtcadiohekccmiaaGreatDoorQx0
import Derived.Test.YtcadiohekccmiaaGreatDoorQYa0
import Derived.Test.YtcadiohekccmiaaGreatDoorQs0
import Derived.Test.YtcadiohekccmiaaGreatDoorQm1
import Derived.Test.YtcadiohekccmiaaGreatDoorQy0
import Derived.Test.YtcadiohekccmiaaGreatDoorQz0
import Derived.Test.YtcadiohekccmiaaGreatDoorQg0
namespace Go.Qz
open Go.Proofs Go.RowKit
theorem mixed:Tryz.prog.follows .mixedOrders=true:=by kernel_rfl
theorem noGo:(Tryz.prog.funcs.all λfn=> !(fn.name== "runtime.NumGoroutine"))=true:=by kernel_rfl
theorem z4r(f:FuncId)(fn:Func)(hf:Tryz.prog.funcs[f]? =some fn):fn.name≠ "runtime.NumGoroutine" := λhn=>by
 have h:=Array.all_eq_true_iff_forall_mem.1 noGo fn (Array.mem_of_getElem? hf);rw[hn]at h;exact absurd h (by decide)
theorem zd2{f:FuncId}{fn:Func}(hf:Tryz.prog.funcs[f]? =some fn)(hb:fn.body.isSome=true):zc4 Tryz.prog f:=⟨fn,hf,hb,z4r f fn hf⟩
theorem RO.takeSl{c:Mem}{z k cap:Nat}{xs:List D}{a:Option Addr}(h:RO c (.sl z xs) (.slice a xs.length cap))(hk:k<=xs.length):RO c (.sl z (xs.take k)) (.slice a k cap):=by
 obtain⟨a',cap',e1,h1,h2⟩:=h.sl_inv;cases e1;by_cases hx:xs=[]
 ·subst hx;obtain rfl:k=0:=by simpa using hk
  exact .sl0
 ·obtain⟨b,off,u,rfl,h3,h4,h5⟩:=h2 hx;have hlen:(xs.take k).length=k:=by rw[List.length_take];omega
  have:=@RO.sl c z (xs.take k) b off cap u (by omega) (λx hx=>h3 x (List.mem_of_mem_take hx)) (λm hm=>h4 m (Nat.lt_of_lt_of_le hm (Nat.mul_le_mul_right _ (by omega)))) (λm d hd=>h5 m d (zry h3 hk hd))
  rw[hlen]at this;exact this
theorem zwx[Base]:zap Tryz.prog z5v:=by
 intro f us bx r bx' h;unfold z5v at h;split at h
 ·rename_i hf;subst hf;split at h
  ·rename_i z xs;split at h
   ·rename_i hc;subst hc;simp only[Option.some.injEq,Prod.mk.injEq]at h;obtain⟨rfl,rfl⟩:=h;refine⟨zd2 Tryz.func34 (by kernel_rfl),λg w vs hsz hs=>?_⟩
    have e0:RO g.c (.sl 1 xs) (vs.getD 0 undef):=zga hs (a:=.ro (.sl 1 xs)) rfl;obtain⟨a,cap,hu,hcap,_⟩:=e0.sl_inv
    have e:vs= #[.slice a xs.length cap]:=by
     simp only[List.length_singleton]at hsz;refine Array.ext (by simpa using hsz) (λk hk hk' =>?_)
     obtain rfl:k=0:=by omega
     simpa [Array.getD_eq_getD_getElem?,hk]using hu
    subst e;have hro:RO g.c (.sl 1 xs) (.slice a xs.length cap):=hu▸e0
    have fin:∀k,k<=xs.length->xs.take 2000=xs.take k->Post g (zaj 1 [A.ro (.sl 1 xs)] []) w (.agg [.ro (.sl 1 (xs.take 2000)),.ro (.int .i64 0)]) [] (.pointer (some ⟨w.heap.size,0,none⟩)) (w.alloc (.cells #[.slice a k cap,.int .i64 0] 113)):=by
     intro k hk he;refine⟨#[.slice a k cap,.int .i64 0],113,rfl,rfl,rfl,λj d hd=>?_⟩
     match j,hd with
     |0,hd=>
      simp only[List.getElem?_cons_zero,Option.some.injEq,A.ro.injEq]at hd;subst hd;rw[he];exact⟨rfl,hro.takeSl hk⟩
     |1,hd=>
      simp at hd;subst hd;exact⟨rfl,.int _ _⟩
     |j+2,hd=>simp at hd
    by_cases hlen:xs.length<=2000
    ·refine(zze a xs.length cap hlen w).mono ?_;rintro en w' ⟨rfl,rfl⟩;exact⟨_,rfl,fin xs.length (Nat.le_refl _) (by rw[List.take_of_length_le hlen,List.take_length])⟩
    ·refine(z2v a xs.length cap (by omega) hcap w).mono ?_
     rintro en w' ⟨rfl,rfl⟩;exact⟨_,rfl,fin 2000 (by omega) rfl⟩
   ·cases h
  ·cases h
 ·cases h
theorem yen:z1u Tryz.prog ioS:=λf hf=>by
 rw[z8k]at hf;obtain rfl:f=166:=by simpa using hf
 exact⟨zd2 Tryz.func166 (by kernel_rfl),zxl⟩
theorem yeo[Base]:zap Tryz.prog (zc3 Tryz.prog ioS noX):=zkh mixed zs7 yen z4r
theorem zz1:zc3 Tryz.prog ioS noX z5t [.ro .snil] []=some (.one (.own (.sl 1 [])),[]):=by
 refine zaf Tryz.func151 z9t rfl ?_;simp
theorem z4s:zc3 Tryz.prog ioS noX z5t [.ro .sne] []=some (.one (.own (.sl 1 [])),[]):=by
 refine zaf Tryz.func151 z9t rfl ?_;have ha:0<=zad:=by simp[zad]
 simp[ha]
theorem zug[Base]:zap Tryz.prog zgb:=by
 intro f us bx r bx' h;unfold zgb at h;split at h
 ·rename_i hf;subst hf;split at h
  ·rename_i z;split at h
   ·rename_i hz;subst hz;simp only[Option.some.injEq,Prod.mk.injEq]at h;obtain⟨rfl,rfl⟩:=h;exact z9a yeo (z:=1) (k:=0) (ds:=[.sl 1 []]) rfl zz1 z4s
   ·cases h
  ·cases h
 ·cases h
theorem zwy[Base](hT:Base.W0.cell? ⟨0,0,none⟩=some (.iface 246 (.agg #[hnd 88]))):zap Tryz.prog zkj:=by
 intro f us bx r bx' h;unfold zkj at h;split at h
 ·rename_i hf;subst hf;split at h
  ·simp only[Option.some.injEq,Prod.mk.injEq]at h;obtain⟨rfl,rfl⟩:=h;refine⟨zd2 Tryz.func156 (by kernel_rfl),λg w vs hsz hs=>?_⟩
   have e:=zet (ds:=[.nili]) hs hsz rfl;subst e;refine(zzg w).mono ?_;rintro en w' ⟨rfl,rfl⟩;exact⟨_,rfl,g,_,zfa hs ((Below.refl _ _).alloc (Nat.le_refl _) _) (RO.int _ _)⟩
  ·rename_i t k c;split at h
   ·rename_i hc;simp only[Bool.and_eq_true,decide_eq_true_eq]at hc;obtain⟨rfl,rfl⟩:=hc;simp only[Option.some.injEq,Prod.mk.injEq]at h;obtain⟨rfl,rfl⟩:=h;refine⟨zd2 Tryz.func156 (by kernel_rfl),λg w vs hsz hs=>?_⟩
    have e0:RO g.c (.iface 195 (.agg [.int .i64 c])) (vs.getD 0 undef):=zga hs (a:=.ro (.iface 195 (.agg [.int .i64 c]))) rfl;obtain⟨u,hu,hr⟩:=e0.iface_inv;obtain⟨us,rfl,hsz2,_,hr2⟩:=hr.agg_inv;have hi:=(hr2 0 (.int .i64 c) rfl).int_inv
    have hus:us= #[.int .i64 c]:=by
     refine Array.ext (by simpa using hsz2) (λk hk hk' =>?_)
     simp only[List.length_singleton]at hsz2;obtain rfl:k=0:=by omega
     simpa [Array.getD_eq_getD_getElem?,hk]using hi
    have e:vs= #[.iface 195 (.agg #[.int .i64 c])]:=by
     simp only[List.length_singleton]at hsz;refine Array.ext (by simpa using hsz) (λk hk hk' =>?_)
     obtain rfl:k=0:=by omega
     simpa [Array.getD_eq_getD_getElem?,hk,hus]using hu
    have hm:w.cell? ⟨0,0,none⟩=some (.iface 246 (.agg #[hnd 88])):=zvu hs hT;subst e;refine(zzh c w hm).mono ?_;rintro en w' ⟨rfl,hb⟩;exact⟨_,rfl,g,_,zfa hs hb (RO.int _ _)⟩
   ·cases h
  ·cases h
 ·cases h
structure Start(W:World):Prop where
 maxLen:∃m:Int,W.cell? ⟨1,0,none⟩=some (.int .i64 m)
 error:W.cell? ⟨0,0,none⟩=some (.iface 246 (.agg #[hnd 88]))
theorem z73[Base](hT:Start Base.W0):zap Tryz.prog XS:=
 zcm (zs8 (zd2 Tryz.func168 (by kernel_rfl)) hT.maxLen (λs t m w h hm=>Tryz.strings_Index s t m w h hm))<|
 zcm (zvw (zd2 Tryz.func209 (by kernel_rfl)) (λs c w=>Tryz.strings_IndexByte s c w))<|
 zcm (zwy hT.error)<|
 zcm zug<|
 zcm (zzb (zd2 Tryz.func70 (by kernel_rfl)) z57)<|
 zcm (zza (zd2 Tryz.func137 (by kernel_rfl)) hT.maxLen (λs t m w h hm=>Tryz.strings_Cut s t m w h hm))<|
 zcm (zvx (zd2 Tryz.func131 (by kernel_rfl)) (λb w h0 h1 h2=>Tryz.copyCheck_fresh b w h0 h1 h2) (λb w h0=>Tryz.copyCheck_used b w h0))<|
 zcm (zvy (zd2 Tryz.func66 (by kernel_rfl)) (λs b p v tag w h0 h1=>zx5 Tryz.lays169 Tryz.Builder_Extra_169 b s p v tag w h0 h1))<|
 zcm (zv1 (zd2 Tryz.func64 (by kernel_rfl)) (λbk o c xs sep w h1 h2 h3 h4 h5=>Tryz.strings_Join bk o c xs sep w h1 h2 h3 h4 h5))<|
 zcm (zzc (zd2 Tryz.func170 (by kernel_rfl)) (λs t w h1 h2 h3 h4=>Any.indexAny_all Tryz.lays153 (by kernel_rfl) s t w h1 h2 h3 h4))<|
 zcm zwx<|
 zs7
theorem yqj:z1u Tryz.prog ioS:=λf hf=>by
 rw[z8k]at hf;obtain rfl:f=166:=by simpa using hf
 exact⟨zd2 Tryz.func166 (by kernel_rfl),zxl⟩
theorem sound[Base](hT:Start Base.W0):zap Tryz.prog C:=zkh mixed (z73 hT) yqj z4r
end Go.Qz
