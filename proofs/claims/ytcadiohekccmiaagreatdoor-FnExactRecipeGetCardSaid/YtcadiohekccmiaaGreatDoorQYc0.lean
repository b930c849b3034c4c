import Derived.Test.YtcadiohekccmiaaGreatDoorQx0
import Derived.Test.YtcadiohekccmiaaGreatDoorQYa0
import Derived.Test.YtcadiohekccmiaaGreatDoorQs0
import Derived.Test.YtcadiohekccmiaaGreatDoorQm1
import Derived.Test.YtcadiohekccmiaaGreatDoorQy0
import Derived.Test.YtcadiohekccmiaaGreatDoorQz0
import Derived.Test.YtcadiohekccmiaaGreatDoorQf0
import Derived.WalkKit
import Derived.Test.YtcadiohekccmiaaGreatDoorQYb1
namespace Go.Qz
open Go.Proofs Go.RowKit
theorem mixed:Tryz.prog.follows .mixedOrders=true:=by kernel_rfl
theorem noGo:(Tryz.prog.funcs.all λfn=> !(fn.name== "runtime.NumGoroutine"))=true:=by kernel_rfl
theorem z67(f:FuncId)(fn:Func)(hf:Tryz.prog.funcs[f]? =some fn):fn.name≠ "runtime.NumGoroutine" := λhn=>by
 have h:=Array.all_eq_true_iff_forall_mem.1 noGo fn (Array.mem_of_getElem? hf);rw[hn]at h;exact absurd h (by decide)
theorem zdn{f:FuncId}{fn:Func}(hf:Tryz.prog.funcs[f]? =some fn)(hb:fn.body.isSome=true):zc4 Tryz.prog f:=⟨fn,hf,hb,z67 f fn hf⟩
theorem RO.takeSl{c:Mem}{z k cap:Nat}{xs:List D}{a:Option Addr}(h:RO c (.sl z xs) (.slice a xs.length cap))(hk:k<=xs.length):RO c (.sl z (xs.take k)) (.slice a k cap):=by
 obtain⟨a',cap',e1,h1,h2⟩:=h.sl_inv;cases e1;by_cases hx:xs=[]
 ·subst hx;obtain rfl:k=0:=by simpa using hk
  exact .sl0
 ·obtain⟨b,off,u,rfl,h3,h4,h5⟩:=h2 hx;have hlen:(xs.take k).length=k:=by rw[List.length_take];omega
  have:=@RO.sl c z (xs.take k) b off cap u (by omega) (λx hx=>h3 x (List.mem_of_mem_take hx)) (λm hm=>h4 m (Nat.lt_of_lt_of_le hm (Nat.mul_le_mul_right _ (by omega)))) (λm d hd=>h5 m d (zso h3 hk hd))
  rw[hlen]at this;exact this
theorem zx9[Base]:zao Tryz.prog yb8:=by
 intro f us bx r bx' h;unfold yb8 at h;split at h
 ·rename_i hf;subst hf;split at h
  ·rename_i z xs;split at h
   ·rename_i hc;subst hc;simp only[Option.some.injEq,Prod.mk.injEq]at h;obtain⟨rfl,rfl⟩:=h;refine⟨zdn Tryz.func34 (by kernel_rfl),λg w vs hsz hs=>?_⟩
    have e0:RO g.c (.sl 1 xs) (vs.getD 0 undef):=zgg hs (a:=.ro (.sl 1 xs)) rfl;obtain⟨a,cap,hu,hcap,_⟩:=e0.sl_inv
    have e:vs= #[.slice a xs.length cap]:=by
     simp only[List.length_singleton]at hsz;refine Array.ext (by simpa using hsz) (λk hk hk' =>?_)
     obtain rfl:k=0:=by omega
     simpa [Array.getD_eq_getD_getElem?,hk]using hu
    subst e;have hro:RO g.c (.sl 1 xs) (.slice a xs.length cap):=hu▸e0
    have fin:∀k,k<=xs.length->xs.take 2000=xs.take k->Post g (zaj 1 [A.ro (.sl 1 xs)] []) w (.agg [.ro (.sl 1 (xs.take 2000)),.ro (.int .i64 0)]) [] (.pointer (some ⟨w.heap.size,0,none⟩)) (w.alloc (.cells #[.slice a k cap,.int .i64 0] 113)):=by
     intro k hk he;refine⟨#[.slice a k cap,.int .i64 0],113,rfl,rfl,rfl,λj d hd=>?_⟩
     match j,hd with
     |0,hd=>
      simp only[List.getElem?_cons_zero,Option.some.injEq,A.ro.injEq]at hd;subst hd;rw[he];exact⟨rfl,hro.takeSl hk⟩
     |1,hd=>
      simp at hd;subst hd;exact⟨rfl,.int _ _⟩
     |j+2,hd=>simp at hd
    by_cases hlen:xs.length<=2000
    ·refine(z1e a xs.length cap hlen w).mono ?_;rintro en w' ⟨rfl,rfl⟩;exact⟨_,rfl,fin xs.length (Nat.le_refl _) (by rw[List.take_of_length_le hlen,List.take_length])⟩
    ·refine(z5f a xs.length cap (by omega) hcap w).mono ?_
     rintro en w' ⟨rfl,rfl⟩;exact⟨_,rfl,fin 2000 (by omega) rfl⟩
   ·cases h
  ·cases h
 ·cases h
theorem yfa:z38 Tryz.prog ioS:=λf hf=>by
 rw[yau]at hf;obtain rfl:f=166:=by simpa using hf
 exact⟨zdn Tryz.func166 (by kernel_rfl),zzd⟩
theorem yfb[Base]:zao Tryz.prog (zc3 Tryz.prog ioS noX):=zkp mixed zt5 yfa z67
theorem z11:zc3 Tryz.prog ioS noX z8l [.ro .snil] []=some (.one (.own (.sl 1 [])),[]):=by
 refine zae Tryz.func151 yb3 rfl ?_;simp
theorem z68:zc3 Tryz.prog ioS noX z8l [.ro .sne] []=some (.one (.own (.sl 1 [])),[]):=by
 refine zae Tryz.func151 yb3 rfl ?_;have ha:0<=zag:=by simp[zag]
 simp[ha]
theorem zvd[Base]:zao Tryz.prog zhh:=by
 intro f us bx r bx' h;unfold zhh at h;split at h
 ·rename_i hf;subst hf;split at h
  ·rename_i z;split at h
   ·rename_i hz;subst hz;simp only[Option.some.injEq,Prod.mk.injEq]at h;obtain⟨rfl,rfl⟩:=h;exact ybk yfb (z:=1) (k:=0) (ds:=[.sl 1 []]) rfl z11 z68
   ·cases h
  ·cases h
 ·cases h
theorem zya[Base](hT:Base.W0.cell? ⟨0,0,none⟩=some (.iface 246 (.agg #[hnd 88]))):zao Tryz.prog zll:=by
 intro f us bx r bx' h;unfold zll at h;split at h
 ·rename_i hf;subst hf;split at h
  ·simp only[Option.some.injEq,Prod.mk.injEq]at h;obtain⟨rfl,rfl⟩:=h;refine⟨zdn Tryz.func156 (by kernel_rfl),λg w vs hsz hs=>?_⟩
   have e:=zey (ds:=[.nili]) hs hsz rfl;subst e;refine(z1g w).mono ?_;rintro en w' ⟨rfl,rfl⟩;exact⟨_,rfl,g,_,zfe hs ((Below.refl _ _).alloc (Nat.le_refl _) _) (RO.int _ _)⟩
  ·rename_i t k c;split at h
   ·rename_i hc;simp only[Bool.and_eq_true,decide_eq_true_eq]at hc;obtain⟨rfl,rfl⟩:=hc;simp only[Option.some.injEq,Prod.mk.injEq]at h;obtain⟨rfl,rfl⟩:=h;refine⟨zdn Tryz.func156 (by kernel_rfl),λg w vs hsz hs=>?_⟩
    have e0:RO g.c (.iface 195 (.agg [.int .i64 c])) (vs.getD 0 undef):=zgg hs (a:=.ro (.iface 195 (.agg [.int .i64 c]))) rfl;obtain⟨u,hu,hr⟩:=e0.iface_inv;obtain⟨us,rfl,hsz2,_,hr2⟩:=hr.agg_inv;have hi:=(hr2 0 (.int .i64 c) rfl).int_inv
    have hus:us= #[.int .i64 c]:=by
     refine Array.ext (by simpa using hsz2) (λk hk hk' =>?_)
     simp only[List.length_singleton]at hsz2;obtain rfl:k=0:=by omega
     simpa [Array.getD_eq_getD_getElem?,hk]using hi
    have e:vs= #[.iface 195 (.agg #[.int .i64 c])]:=by
     simp only[List.length_singleton]at hsz;refine Array.ext (by simpa using hsz) (λk hk hk' =>?_)
     obtain rfl:k=0:=by omega
     simpa [Array.getD_eq_getD_getElem?,hk,hus]using hu
    have hm:w.cell? ⟨0,0,none⟩=some (.iface 246 (.agg #[hnd 88])):=zw8 hs hT;subst e;refine(z1h c w hm).mono ?_;rintro en w' ⟨rfl,hb⟩;exact⟨_,rfl,g,_,zfe hs hb (RO.int _ _)⟩
   ·cases h
  ·cases h
 ·cases h
structure Start(W:World):Prop where
 maxLen:∃m:Int,W.cell? ⟨1,0,none⟩=some (.int .i64 m)
 error:W.cell? ⟨0,0,none⟩=some (.iface 246 (.agg #[hnd 88]))
theorem yam[Base](hT:Start Base.W0):zao Tryz.prog XS:=
 zcp (zt6 (zdn Tryz.func168 (by kernel_rfl)) hT.maxLen (λs t m w h hm=>Tryz.strings_Index s t m w h hm))<|
 zcp (zxa (zdn Tryz.func209 (by kernel_rfl)) (λs c w=>Tryz.strings_IndexByte s c w))<|
 zcp (zya hT.error)<|
 zcp zvd<|
 zcp (z1a (zdn Tryz.func70 (by kernel_rfl)) z8x)<|
 zcp (z09 (zdn Tryz.func137 (by kernel_rfl)) hT.maxLen (λs t m w h hm=>Tryz.strings_Cut s t m w h hm))<|
 zcp (zxb (zdn Tryz.func131 (by kernel_rfl)) (λb w h0 h1 h2=>Tryz.copyCheck_fresh b w h0 h1 h2) (λb w h0=>Tryz.copyCheck_used b w h0))<|
 zcp (zxd (zdn Tryz.func66 (by kernel_rfl)) (λs b p v tag w h0 h1=>zzx Tryz.lays169 Tryz.Builder_Extra_169 b s p v tag w h0 h1))<|
 zcp (zxf (zdn Tryz.func64 (by kernel_rfl)) (λbk o c xs sep w h1 h2 h3 h4 h5=>Tryz.strings_Join bk o c xs sep w h1 h2 h3 h4 h5))<|
 zcp (z1c (zdn Tryz.func170 (by kernel_rfl)) (λs t w h1 h2 h3 h4=>Any.indexAny_all Tryz.lays153 (by kernel_rfl) s t w h1 h2 h3 h4))<|
 zcp zx9<|
 zt5
theorem yll:z38 Tryz.prog ioS:=λf hf=>by
 rw[yau]at hf;obtain rfl:f=166:=by simpa using hf
 exact⟨zdn Tryz.func166 (by kernel_rfl),zzd⟩
theorem sound[Base](hT:Start Base.W0):zao Tryz.prog C:=zkp mixed (yam hT) yll z67
end Go.Qz
namespace Go.Qz
open Go.Proofs Go.RowKit
theorem yfc{w:World}{b:Nat}{vals:Array Value}{T:TypeId}(hs:vals.size=8)(h:w.heap[b]? =some (.cells vals T (0,0))):
 w.cell? ⟨b,2,none⟩=some (vals.getD 2 undef)/\w.cell? ⟨b,3,none⟩=some (vals.getD 3 undef)/\w.cell? ⟨b,4,none⟩=some (vals.getD 4 undef)/\w.cell? ⟨b,5,none⟩=some (vals.getD 5 undef)/\w.cell? ⟨b,6,none⟩=some (vals.getD 6 undef)/\w.cell? ⟨b,7,none⟩=some (vals.getD 7 undef):=by
 simp[World.cell?,h,hs]
set_option maxHeartbeats 2000000 in
theorem zr8:zpi Tryz.prog 22 8 29 [(2,56),(3,57),(4,57),(5,58),(6,59),(7,23)]:=by
 refine⟨zdn Tryz.func22 (by kernel_rfl),λvals k0 w I hsz h0 hblk hstep=>?_⟩
 have s0:=hstep 0 _ rfl;have s1:=hstep 1 _ rfl;have s2:=hstep 2 _ rfl;have s3:=hstep 3 _ rfl;have s4:=hstep 4 _ rfl;have s5:=hstep 5 _ rfl;clear hstep;dsimp only at s0 s1 s2 s3 s4 s5;have hc:=λi k w' h=>yfc hsz (hblk i k w' h)
 clear hblk;obtain⟨c2,c3,c4,c5,c6,c7⟩:=hc _ _ _ h0;generalize vals.getD 2 undef=v2 at *;generalize vals.getD 3 undef=v3 at *;generalize vals.getD 4 undef=v4 at *;generalize vals.getD 5 undef=v5 at *;generalize vals.getD 6 undef=v6 at *;generalize vals.getD 7 undef=v7 at *
 go_enter Tryz.func22,Tryz.ntmps22
 go_wp2_with (fail)
 refine(s0 _ _ h0).mono ?_;rintro e w1 ⟨k1,rfl,h1⟩;clear c2 c3 c4 c5 c6 c7 h0;obtain⟨c2,c3,c4,c5,c6,c7⟩:=hc _ _ _ h1;dsimp only
 go_wp2_with (fail)
 refine(s1 _ _ h1).mono ?_;rintro e w2 ⟨k2,rfl,h2⟩;clear c2 c3 c4 c5 c6 c7 h1;obtain⟨c2,c3,c4,c5,c6,c7⟩:=hc _ _ _ h2;dsimp only
 go_wp2_with (fail)
 refine(s2 _ _ h2).mono ?_;rintro e w3 ⟨k3,rfl,h3⟩;clear c2 c3 c4 c5 c6 c7 h2;obtain⟨c2,c3,c4,c5,c6,c7⟩:=hc _ _ _ h3;dsimp only
 go_wp2_with (fail)
 refine(s3 _ _ h3).mono ?_;rintro e w4 ⟨k4,rfl,h4⟩;clear c2 c3 c4 c5 c6 c7 h3;obtain⟨c2,c3,c4,c5,c6,c7⟩:=hc _ _ _ h4;dsimp only
 go_wp2_with (fail)
 refine(s4 _ _ h4).mono ?_;rintro e w5 ⟨k5,rfl,h5⟩;clear c2 c3 c4 c5 c6 c7 h4;obtain⟨c2,c3,c4,c5,c6,c7⟩:=hc _ _ _ h5;dsimp only
 go_wp2_with (fail)
 refine(s5 _ _ h5).mono ?_;rintro e w6 ⟨k6,rfl,h6⟩;clear c2 c3 c4 c5 c6 c7 h5;obtain⟨c2,c3,c4,c5,c6,c7⟩:=hc _ _ _ h6;dsimp only
 go_wp2
 go_ret
 exact⟨_,rfl,h6⟩
end Go.Qz
namespace Go.Qz
open Go.Proofs
set_option maxHeartbeats 4000000 in
set_option maxRecDepth 8000 in
theorem zlu(t:List UInt8)(hl:t.length<=140737488351232):C Fn9 [.ro (T t)] []=some (.one (.ro (.bool true)),[]):=by
 refine zae Tryz.func9 Cv9 rfl ?_;by_cases hlong:1048576<t.length
 ·have h1:(1048576:Int)<t.length:=by omega
  simp[h1]
 have h1:¬(1048576:Int)<t.length:=by omega
 have hI:=zr1 t (by omega)
 have hS:=zr2 t (by omega)
 rw[<-z9u]at hS;have hz:=ycw t;generalize getI t=v at *;obtain⟨r,b⟩:=v;simp only at hI hS hz;have heq:=zr7 r hz;have z1:=hz.lets;have z2:=hz.builds;have z3:=hz.runs;have z4:=hz.srcs;have z5:=hz.pcs;have z6:=hz.steps;have m1:=zx5 r.lets 1 (by omega) z1
 have g1:=zx6 r.lets.length 1 (by omega) z1
 obtain⟨k1,e1⟩:∃k,1+2*r.lets.length=k:=⟨_,rfl⟩;rw[e1]at m1 g1;have m2:=zmh r.builds k1 (by omega) z2
 have g2:=zmi r.builds.length k1 (by omega) z2
 obtain⟨k2,e2⟩:∃k,k1+3*r.builds.length=k:=⟨_,rfl⟩;rw[e2]at m2 g2;have m3:=zmh r.runs k2 (by omega) z3
 have g3:=zmi r.runs.length k2 (by omega) z3
 obtain⟨k3,e3⟩:∃k,k2+3*r.runs.length=k:=⟨_,rfl⟩;rw[e3]at m3 g3;have m4:=zpb r.srcs k3 (by omega) z4
 have g4:=zpc r.srcs.length k3 (by omega) z4
 obtain⟨k4,e4⟩:∃k,k3+2*r.srcs.length=k:=⟨_,rfl⟩;rw[e4]at m4 g4;have m5:=zr3 r.pcs k4 (by omega) z5
 have g5:=zr4 r.pcs.length k4 (by omega) z5
 obtain⟨k5,e5⟩:∃k,k4+2*r.pcs.length=k:=⟨_,rfl⟩;rw[e5]at m5 g5;have m6:=zo9 r.steps k5 (by omega) z6
 have g6:=zpa r.steps.length k5 (by omega) z6
 obtain⟨k6,e6⟩:∃k,k5+r.steps.length=k:=⟨_,rfl⟩;rw[e6]at m6 g6;generalize zbc zbn 2 r.lets.length 1=y1 at *;generalize zbc zhi 3 r.builds.length k1=y2 at *;generalize zbc zhi 3 r.runs.length k2=y3 at *;generalize zbc zbn 2 r.srcs.length k3=y4 at *;generalize zbc zbn 2 r.pcs.length k4=y5 at *;generalize zmo r.steps.length k5=y6 at *;have n1:¬((k1:Int)<0):=by omega
 have n2:¬((k2:Int)<0):=by omega
 have n3:¬((k3:Int)<0):=by omega
 have n4:¬((k4:Int)<0):=by omega
 have n5:¬((k5:Int)<0):=by omega
 have n6:¬((k6:Int)<0):=by omega
 have held:C Fn29 [.ro (RcD ⟨r.name,r.ver,y1,y2,y3,y4,y5,y6⟩),.ro (N 1)] []=some (.one (.ro (N k6)),[]):=by
  refine zae Tryz.func29 Cv29 rfl ?_;simp[g1,g2,g3,g4,g5,g6,n1,n2,n3,n4,n5,n6]
 replace m1:C Fn56 [.view ⟨.cell 10000 0,[]⟩,.ro (I 1)] [(10000,[.own (FS r.lets)])]=some (.one (.ro (N k1)),[(10000,[.own (FS y1)])]):=m1;replace held:C Fn29 [.ro (RcD ⟨r.name,r.ver,y1,y2,y3,y4,y5,y6⟩),.ro (I 1)] []=some (.one (.ro (N k6)),[]):=held;have hw:=zr8;cases b<;>simp[h1,hS,hI,heq,hw,m1,m2,m3,m4,m5,m6,held,n6]
end Go.Qz
