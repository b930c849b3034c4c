import Derived.Test.YtcadiohekccmiaaGreatDoorQx0
import Derived.Test.YtcadiohekccmiaaGreatDoorQYa0
import Derived.Test.YtcadiohekccmiaaGreatDoorQy0
namespace Go.Qz
open Go.Proofs
abbrev zaz:=List (List UInt8)
abbrev SS(xs:zaz):D:=.sl 1 (xs.map T)
abbrev I(n:Int):D:=.int .i64 n
abbrev N(n:Nat):D:=.int .i64 (n:Int)
@[simp] theorem yqf(xs:zaz):flats (xs.map T)=true:=by
  induction xs with
  |nil=>rfl
  |cons a r ih=>simp[flats,D.flat,ih]
end Go.Qz
namespace Go.Qz
open Go.Proofs
def zcx(b:UInt8):Bool:=decide (32<=b.toNat)&&decide (b.toNat<=126)
def zxm(l:List UInt8):Bool:=decide (l.length<=80)&&l.all zcx
def inI(n a b:Int):Bool:=decide (a<=n)&&decide (n<=b)
theorem zmb(b:UInt8):C yn1 [.ro (.int .u8 b.toNat)] []=some (.one (.ro (.bool (zcx b))),[]):=by
 refine zaf Tryz.func177 yn2 rfl ?_;unfold zcx;by_cases h:32<=b.toNat<;>simp[h]
theorem zlk(n a b:Int):C ymh [.ro (I n),.ro (I a),.ro (I b)] []=some (.one (.ro (.bool (inI n a b))),[]):=by
 refine zaf Tryz.func158 ymi rfl ?_;unfold inI;by_cases h:a<=n<;>simp[h]
theorem z58(b:UInt8):inI b.toNat 32 126=zcx b:=by
 unfold inI zcx;congr 1
 ·simp
 ·simp
theorem ztd(l:List UInt8):C yls [.ro (T l)] []=some (.one (.ro (.bool (zxm l))),[]):=by
 refine zaf Tryz.func150 yly rfl ?_;unfold zxm;by_cases hs:l.length<=80
 ·have hs':¬(80:Int)<l.length:=by omega
  simp[hs']
  refine zak (λm e=> ∃i,m=l.length-i/\i<=l.length/\e.size=18/\e.get 0=.one (.ro (T l))/\e.get 8=.one (.ro (N l.length))/\e.get 9=.one (.ro (N i))/\
   (l.drop i).all zcx=l.all zcx) ?_ l.length _ ⟨0,rfl,Nat.zero_le _,by simp,by simp,by simp,by simp,rfl⟩
  rintro m e ⟨i,rfl,hi,hsz,h0,h8,h9,hr⟩ ih;rcases Nat.lt_or_ge i l.length with hlt|hge
  ·have hd:l.drop i=l[i]::l.drop (i+1):=List.drop_eq_getElem_cons hlt;have hwi:IntKind.i64.wrap ((i:Int)+1)=((i+1:Nat):Int):=zae (by omega)
   rw[hd,List.all_cons]at hr
   cases hp:zcx l[i]with
   |false=>
    rw[hp]at hr;simp[zmb,hsz,h0,h8,h9,hlt,hp,hs,<-hr]
   |true=>
    rw[hp,Bool.true_and]at hr;simp[zmb,hsz,h0,h8,h9,hlt,hwi,hp];exact ih _ _ (by omega) ⟨i+1,rfl,by omega,by simp[hsz],by simp[h0],by simp[h8],by simp,hr⟩
  ·obtain rfl:i=l.length:=by omega
   rw[List.drop_length,List.all_nil]at hr;simp[hsz,h0,h8,h9,hs,<-hr]
 ·have hs':80<l.length:=by omega
  simp[hs',hs]
end Go.Qz
namespace Go.Qz
open Go.Proofs
abbrev BS(bs:List Int):D:=.sl 1 (bs.map (D.int .u8))
theorem z22{a b:Nat}(ha:a<4611686018427387904)(hb:b<4611686018427387904):∃x:Nat,x<4611686018427387904/\IntKind.i64.wrap ((a % 2^IntKind.i64.bits^^^b % 2^IntKind.i64.bits:Nat):Int)=x:=by
 refine⟨a^^^b,Nat.xor_lt_two_pow (n:=62) ha hb,?_⟩;have h2:a^^^b<2^62:=Nat.xor_lt_two_pow (n:=62) ha hb;rw[show 2^IntKind.i64.bits=18446744073709551616 from rfl,Nat.mod_eq_of_lt (by omega),Nat.mod_eq_of_lt (by omega)]
 exact wrap64 (by omega) (by omega)
theorem z23(bs:List Int)(hb:∀b∈bs,0<=b/\b<=255)(hl:bs.length<=2000)(i:Nat)(hi:i<=100000)(n:Nat)(hn0:0<n)(hn:n<=100000):
 ∃r:Nat,r<n/\C Fn80 [.ptr 5000 0,.ro (N n)] [(5000,[.ro (BS bs),.ro (N i)])]=some (.one (.ro (N r)),[(5000,[.ro (BS bs),.ro (N (i+1))])]):=by
 have w1:IntKind.i64.wrap ((i:Int)+1)=((i+1:Nat):Int):=zae (by omega)
 have w2:IntKind.i64.wrap (i:Int)=i:=wrap64 (by omega) (by omega)
 have n1:¬(n:Int)<1:=by omega
 by_cases h0:bs=[]
 ·subst h0;refine⟨0,hn0,zaf Tryz.func80 Cv80 rfl ?_⟩;simp[w1,n1]
 ·by_cases hlt:i<bs.length
  ·obtain⟨b,hbe⟩:∃b:Nat,bs[i]=(b:Int):=⟨bs[i].toNat,by have:=hb _ (List.getElem_mem hlt);omega⟩
   have hb255:=hb _ (List.getElem_mem hlt);rw[hbe]at hb255;have w3:IntKind.i64.wrap (b:Int)=b:=wrap64 (by omega) (by omega)
   have hn':n≠0:=by omega
   obtain⟨r,hr⟩:∃r:Nat,(b:Int).tmod n=r:=⟨b % n,(Int.ofNat_tmod b n).symm⟩
   have hrn:r<n:=by
    have h1:((b % n:Nat):Int)=r:=(Int.ofNat_tmod b n).trans hr;have:=Nat.mod_lt b hn0;omega
   refine⟨r,hrn,zaf Tryz.func80 Cv80 rfl ?_⟩;simp[w1,w2,w3,n1,h0,hlt,hbe,hn',hr]
  ·have hL:0<bs.length:=List.length_pos_iff.2 h0;have hL':bs.length≠0:=by omega
   have hn':n≠0:=by omega
   have md:∀a c:Nat,0<c-> ∃r:Nat,(a:Int).tmod c=r/\r<c:=λa c hc=>⟨a % c,(Int.ofNat_tmod a c).symm,Nat.mod_lt a hc⟩
   have dv:∀a c:Nat,∃r:Nat,(a:Int).tdiv c=r/\r<=a:=λa c=>⟨a/c,(Int.ofNat_tdiv a c).symm,Nat.div_le_self a c⟩
   obtain⟨p,hp,hpL⟩:=md i bs.length hL;obtain⟨q,hq,hqL⟩:=md (i*7+3) bs.length hL;obtain⟨d,hd,hdi⟩:=dv i bs.length;have hq':((i:Int)*7+3).tmod (bs.length:Int)=q:=by rw[<-hq];congr 1
   obtain⟨b1,hb1⟩:∃b:Nat,bs[p]=(b:Int):=⟨bs[p].toNat,by have:=hb _ (List.getElem_mem hpL);omega⟩
   obtain⟨b2,hb2⟩:∃b:Nat,bs[q]=(b:Int):=⟨bs[q].toNat,by have:=hb _ (List.getElem_mem hqL);omega⟩
   have k1:=hb _ (List.getElem_mem hpL);have k2:=hb _ (List.getElem_mem hqL);rw[hb1]at k1;rw[hb2]at k2;have w3:IntKind.i64.wrap ((i:Int)*7)=(i:Int)*7:=wrap64 (by omega) (by omega)
   have w4:IntKind.i64.wrap ((i:Int)*7+3)=(i:Int)*7+3:=wrap64 (by omega) (by omega)
   have w5:IntKind.i64.wrap (b1:Int)=b1:=wrap64 (by omega) (by omega)
   have w6:IntKind.i64.wrap (b2:Int)=b2:=wrap64 (by omega) (by omega)
   have w7:IntKind.i64.wrap ((b1:Int)*131)=(b1:Int)*131:=wrap64 (by omega) (by omega)
   have w8:IntKind.i64.wrap ((b2:Int)*1117)=(b2:Int)*1117:=wrap64 (by omega) (by omega)
   have w9:IntKind.i64.wrap ((b1:Int)*131+(b2:Int)*1117)=(b1:Int)*131+(b2:Int)*1117:=wrap64 (by omega) (by omega)
   have w10:IntKind.i64.wrap ((i:Int)*29)=(i:Int)*29:=wrap64 (by omega) (by omega)
   have w11:IntKind.i64.wrap ((b1:Int)*131+(b2:Int)*1117+(i:Int)*29)=(b1:Int)*131+(b2:Int)*1117+(i:Int)*29:=wrap64 (by omega) (by omega)
   have w12:IntKind.i64.wrap (d:Int)=d:=wrap64 (by omega) (by omega)
   have w13:IntKind.i64.wrap ((d:Int)*53)=(d:Int)*53:=wrap64 (by omega) (by omega)
   obtain⟨V,hV⟩:∃V:Nat,(V:Int)=(b1:Int)*131+(b2:Int)*1117+(i:Int)*29+(d:Int)*53:=⟨b1*131+b2*1117+i*29+d*53,by omega⟩
   have w14:IntKind.i64.wrap ((b1:Int)*131+(b2:Int)*1117+(i:Int)*29+(d:Int)*53)=V:=by rw[hV];exact wrap64 (by omega) (by omega)
   obtain⟨V2,hV2,hV2V⟩:=dv V 64;have hV2':(V:Int).tdiv 64=V2:=hV2;have w15:IntKind.i64.wrap (V2:Int)=V2:=wrap64 (by omega) (by omega)
   obtain⟨x,hx,w16⟩:=z22 (a:=V) (b:=V2) (by omega) (by omega)
   obtain⟨r,hr,hrn⟩:=md x n hn0;refine⟨r,hrn,zaf Tryz.func80 Cv80 rfl ?_⟩;simp[w1,w2,w3,w4,w5,w6,w7,w8,w9,w10,w11,w12,w13,w14,w15,w16,n1,hlt,hn',hr,hL',hp,hq',hpL,hqL,hb1,hb2,hd,hV2']
end Go.Qz
namespace Go.Qz
open Go.Proofs
def Ends(Good:V×zar->Prop)(x:Option (V×zar)):Prop:=∃r,Good r/\x=some r
theorem Ends.of{Good:V×zar->Prop}{r:V×zar}(h:Good r):Ends Good (some r):=⟨r,h,rfl⟩
section
variable{c:Ctx}{a:zac}{ks:List Fr}
theorem zdz{Good:V×zar->Prop}(Inv:Nat->Env->Prop)(step:∀m e,Inv m e->(∀m' e',m' <m->Inv m' e' ->Ends Good (Run c (.loop a) e' ks))->Ends Good (Run c a e (.loop a::ks)))(m:Nat)(e:Env)(h:Inv m e):
 Ends Good (Run c (.loop a) e ks):=by
 induction m using Nat.strongRecOn generalizing e with
 |_ m ih=>
  rw[zxi];exact step m e h (λm' e' hm hi=>ih m' hm e' hi)
end
theorem zcu{P:Program}{io:FuncId->List Nat}{X:zam}{f:FuncId}{us:List A}{bx:zar}{fn:Func}{q:QFn}{Good:V×zar->Prop}(hf:P.funcs[f]? =some fn)(hq:zao fn=some q)(hX:X f us bx=none)
 (h:Ends Good (Run ⟨P,io,zc3 P io X⟩ q.body (zaj q.n us bx) [.fn q.res bx])):Ends Good (zc3 P io X f us bx):=by
 obtain⟨r,h1,h2⟩:=h;exact⟨r,h1,zaf hf hq hX h2⟩
end Go.Qz
namespace Go.Qz
open Go.Proofs
structure Seed(bs:List Int):Prop where
 byte:∀b∈bs,0<=b/\b<=255
 len:bs.length<=2000
abbrev RB(bs:List Int)(i:Nat):List A:=[.ro (BS bs),.ro (N i)]
theorem yqg(bs:List Int)(hb:Seed bs)(i:Nat)(hi:i<=100000)(xs:zaz)(h0:0<xs.length)(hn:xs.length<=100000):
 ∃x∈xs,C Fn79 [.ptr 5000 0,.ro (SS xs)] [(5000,RB bs i)]=some (.one (.ro (T x)),[(5000,RB bs (i+1))]):=by
 obtain⟨r,hr,hp⟩:=z23 bs hb.byte hb.len i hi xs.length h0 hn;refine⟨xs[r],List.getElem_mem hr,zaf Tryz.func79 Cv79 rfl ?_⟩;simp[hp,hr]
theorem zbk{bs:List Int}(hb:Seed bs){i:Nat}(hi:i<=100000)(n:Nat)(m:Int)(hm:m=n)(hn0:0<n)(hn:n<=100000):
 ∃r j:Nat,r<n/\j<=i+1/\C Fn80 [.ptr 5000 0,.ro (.int .i64 m)] [(5000,RB bs i)]=some (.one (.ro (N r)),[(5000,RB bs j)]):=by
 subst hm;obtain⟨r,hr,h⟩:=z23 bs hb.byte hb.len i hi n hn0 hn;exact⟨r,i+1,hr,Nat.le_refl _,h⟩
theorem zb0{bs:List Int}(hb:Seed bs){i:Nat}(hi:i<=100000)(xs:zaz)(h0:0<xs.length)(hn:xs.length<=100000):
 ∃x j,x∈xs/\j<=i+1/\C Fn79 [.ptr 5000 0,.ro (.sl 1 (xs.map T))] [(5000,RB bs i)]=some (.one (.ro (T x)),[(5000,RB bs j)]):=by
 obtain⟨x,hx,h⟩:=yqg bs hb i hi xs h0 hn;exact⟨x,i+1,hx,Nat.le_refl _,h⟩
theorem zte{bs:List Int}(hb:∀b∈bs,0<=b/\b<=255):Seed (bs.take 2000):=⟨λb h=>hb b (List.mem_of_mem_take h),by simp;omega⟩
end Go.Qz
namespace Go.Qz
open Go.Proofs
theorem zqz(s:List UInt8)(n:Nat)(m0:Int)(hm0:m0=n)(hs:s.length<=1000)(hn:n<=1000):∃out:List UInt8,out.length<=s.length*n/\C ydu [.ro (T s),.ro (.int .i64 m0)] []=some (.one (.ro (T out)),[]):=by
 subst hm0
 have h:Ends (λr=> ∃out:List UInt8,out.length<=s.length*n/\r=(.one (.ro (T out)),[])) (C ydu [.ro (T s),.ro (N n)] []):=by
  refine zcu Tryz.func144 yla rfl ?_;have htot:s.length*n<=1000*1000:=Nat.mul_le_mul hs hn;have h0:0+s.length*n<=s.length*n:=by omega
  generalize hz:s.length*n=tot at *;simp
  refine zdz (λm e=> ∃(w out:List UInt8),out.length+w.length*m<=tot/\m<=1000/\e.size=20/\e.get 0=.one (.ro (T w))/\e.get 1=.one (.ro (N m))/\e.get 5=.one (.ro (T out)))
   ?_ n _ ⟨s,[],by rw[hz];simp,hn,by simp,by simp,by simp,by simp⟩
  clear h0 hz;rintro m e ⟨w,out,hw,hm,hsz,h0,h1,h5⟩ ih;rcases Nat.eq_zero_or_pos m with rfl|hp
  ·simp[hsz,h1,h5];exact .of ⟨out,by omega,rfl⟩
  ·have hr1:((m:Int)).tmod 2=((m % 2:Nat):Int):=by rw[Int.ofNat_tmod];rfl
   have hq1:((m:Int)).tdiv 2=((m/2:Nat):Int):=by rw[Int.ofNat_tdiv];rfl
   have hqr:m=2*(m/2)+m % 2:=by omega
   have hrl:m % 2<2:=Nat.mod_lt _ (by omega)
   have hql:m/2<m:=by omega
   have hmul:w.length*m=2*(w.length*(m/2))+w.length*(m % 2):=by
    rw[<-Nat.mul_assoc,Nat.mul_comm 2 w.length,Nat.mul_assoc,<-Nat.mul_add,<-hqr]
   have hwl:w.length<=w.length*m:=Nat.le_mul_of_pos_right _ hp;generalize w.length*m=wm at *;generalize m % 2=r at *;generalize m/2=q at *;have hwr:IntKind.i64.wrap (r:Int)=r:=wrap64 (by omega) (by omega)
   have hwq:IntKind.i64.wrap (q:Int)=q:=wrap64 (by omega) (by omega)
   have b1:w.length+w.length<=zai:=by unfold zai;omega
   have b2:out.length+w.length<=zai:=by unfold zai;omega
   have two:(w++w).length*q=2*(w.length*q):=by rw[List.length_append,<-Nat.two_mul,Nat.mul_assoc]
   have r01:r=0∨r=1:=by omega
   rcases r01 with rfl|rfl
   ·rw[Nat.mul_zero]at hmul;simp[hsz,h0,h1,hp,hr1,hq1,hwq,b1];exact ih q _ hql ⟨w++w,out,by rw[two];omega,by omega,by simp[hsz],by simp,by simp,by simp[h5]⟩
   ·rw[Nat.mul_one]at hmul;simp[hsz,h0,h1,h5,hp,hr1,hq1,hwq,b1,b2];exact ih q _ hql ⟨w++w,out++w,by rw[two,List.length_append];omega,by omega,by simp[hsz],by simp,by simp,by simp⟩
 obtain⟨r,⟨out,h1,rfl⟩,h2⟩:=h;exact⟨out,h1,h2⟩
section
variable{bs:List Int}(hb:Seed bs){i:Nat}
include hb
theorem z6a(hi:i<=50000):∃(x:List UInt8) (j:Nat),x.length<=100/\j<=i+1/\C yk4 [.ptr 5000 0] [(5000,RB bs i)]=some (.one (.ro (T x)),[(5000,RB bs j)]):=by
 obtain⟨ts,hts,hmany⟩:=zqz [116] 80 80 rfl (by simp) (by omega)
 obtain⟨x,j,hx,hj,ho⟩:=zb0 hb (i:=i) (by omega) [[],[111,110,101,10],[111,110,101,10,116,119,111,10,116,104,114,101,101,10],[110,111,32,101,110,100],[97,10,98,10,99,10,100,10,101,10,102,10,103,10],ts] (by simp) (by simp)
 simp only[List.map_cons,List.map_nil]at ho;refine⟨x,j,?_,hj,zaf Tryz.func143 yk5 rfl ?_⟩
 ·simp only[List.mem_cons,List.not_mem_nil,or_false]at hx;simp at hts;rcases hx with rfl|rfl|rfl|rfl|rfl|rfl<;>first|omega|(simp)
 ·simp[hmany,ho]
end
end Go.Qz
namespace Go.Qz
open Go.Proofs
def lowB(b:UInt8):Bool:=decide (97<=b.toNat)&&decide (b.toNat<=122)
def zgc(b:UInt8):Bool:=lowB b||(decide (48<=b.toNat)&&decide (b.toNat<=57))
def za2:List UInt8->Bool
 | []=>false
 |c::r=>decide (r.length+1<=10)&&(lowB c&&(c::r).all zgc)
theorem zdi(l:List UInt8)(hn:l.length<=140737488351232):C Fn85 [.ro (T l)] []=some (.one (.ro (.bool (za2 l))),[]):=by
 refine zaf Tryz.func85 Cv85 rfl ?_
 cases l with
 |nil=>simp[za2]
 |cons c r=>
  by_cases h1:10<r.length+1
  ·have:¬r.length+1<=10:=by omega
   have h1i:(10:Int)<(r.length:Int)+1:=by omega
   simp[za2,h1i,this]
  ·have h1':r.length+1<=10:=by omega
   have h1i:¬(10:Int)<(r.length:Int)+1:=by omega
   by_cases h2:c.toNat<97
   ·have:¬97<=c.toNat:=by omega
    simp[za2,lowB,h1i,h1',h2,this]
   ·have h2':97<=c.toNat:=by omega
    by_cases h3:122<c.toNat
    ·have:¬c.toNat<=122:=by omega
     simp[za2,lowB,h1i,h1',h2,h2',h3,this]
    ·have h3':c.toNat<=122:=by omega
     have hp:za2 (c::r)=(c::r).all zgc:=by simp[za2,lowB,h1',h2',h3']
     rw[hp];simp[h1i,h2,h3];generalize hl:c::r=l at *;have hlen:l.length=r.length+1:=by rw[<-hl];rfl
     have hc:(r.length:Int)+1=(l.length:Int):=by rw[hlen];rfl
     have hr0:(zgc c&&r.all zgc)=l.all zgc:=by rw[<-hl];rfl
     rw[hr0]
     refine zak (λm e=> ∃i,m=l.length-i/\i<=l.length/\e.size=49/\e.get 0=.one (.ro (T l))/\e.get 22=.one (.ro (N l.length))/\e.get 23=.one (.ro (N i))/\(l.drop i).all zgc=l.all zgc)
      ?_ l.length _ ⟨0,rfl,Nat.zero_le _,by simp,by simp,by simp[hc],by simp,rfl⟩
     clear hl hp hr0 hc hlen;rintro m e ⟨i,rfl,hi,hsz,h0,h22,h23,hr⟩ ih;rcases Nat.lt_or_ge i l.length with hlt|hge
     ·have hwi:IntKind.i64.wrap ((i:Int)+1)=((i+1:Nat):Int):=zae (by omega)
      have hd:l.drop i=l[i]::l.drop (i+1):=List.drop_eq_getElem_cons hlt;rw[hd,List.all_cons]at hr;have hb:zgc l[i]=(decide (97<=l[i].toNat)&&decide (l[i].toNat<=122)||(decide (48<=l[i].toNat)&&decide (l[i].toNat<=57))):=rfl
      rw[hb]at hr;by_cases hA:l[i].toNat<97
      ·have a1:¬97<=l[i].toNat:=by omega
       by_cases hC:l[i].toNat<48
       ·have c1:¬48<=l[i].toNat:=by omega
        simp[a1,c1]at hr;simp[hsz,h0,h22,h23,hlt,hA,hC,hr]
       ·have c1:48<=l[i].toNat:=by omega
        by_cases hD:57<l[i].toNat
        ·have d1:¬l[i].toNat<=57:=by omega
         simp[a1,c1,d1]at hr;simp[hsz,h0,h22,h23,hlt,hA,hC,hD,hr]
        ·have d1:l[i].toNat<=57:=by omega
         simp[a1,c1,d1]at hr;simp[hsz,h0,h22,h23,hlt,hA,hC,hD,hwi];exact ih _ _ (by omega) ⟨i+1,rfl,by omega,by simp[hsz],by simp[h0],by simp[h22],by simp,by simpa using hr⟩
      ·have a1:97<=l[i].toNat:=by omega
       by_cases hB:122<l[i].toNat
       ·have b1:¬l[i].toNat<=122:=by omega
        have c1:¬l[i].toNat<48:=by omega
        have d1:57<l[i].toNat:=by omega
        have d2:¬l[i].toNat<=57:=by omega
        simp[b1,d2]at hr;simp[hsz,h0,h22,h23,hlt,hA,hB,c1,d1,hr]
       ·have b1:l[i].toNat<=122:=by omega
        simp[a1,b1]at hr;simp[hsz,h0,h22,h23,hlt,hA,hB,hwi];exact ih _ _ (by omega) ⟨i+1,rfl,by omega,by simp[hsz],by simp[h0],by simp[h22],by simp,by simpa using hr⟩
     ·obtain rfl:i=l.length:=by omega
      rw[List.drop_length]at hr;simp at hr;simp[hsz,h22,h23];exact hr
def digB(b:UInt8):Bool:=decide (48<=b.toNat)&&decide (b.toNat<=57)
def sufS(i:Nat):List UInt8->Bool
 | []=>true
 |c::r=>(lowB c||(decide (i≠0)&&digB c))&&r.all zgc
def z24(l:List UInt8):Bool:=sufS 0 l&&inI l.length 1 10
theorem z6b(i:Nat)(hi:i≠0)(l:List UInt8):sufS i l=l.all zgc:=by
 cases l with
 |nil=>rfl
 |cons c r=>simp[sufS,hi,zgc,digB]
theorem zkk(l:List UInt8):z24 l=za2 l:=by
 cases l with
 |nil=>rfl
 |cons c r=>
  have hp:(lowB c&&(c::r).all zgc)=(lowB c&&r.all zgc):=by
   cases h:lowB c<;>simp[zgc,h]
  show z24 (c::r)=(decide (r.length+1<=10)&&(lowB c&&(c::r).all zgc));rw[hp]
  have hin:inI ((c::r).length) 1 10=decide (r.length+1<=10):=by
   unfold inI;have:((1:Int)<=((c::r).length:Nat))=True:=by simp
   simp;exact⟨λh=>by omega,λh=>by omega⟩
  unfold z24 sufS;rw[hin,Bool.and_comm];simp
theorem zh2(l:List UInt8)(hn:l.length<=140737488351232):C ydq [.ro (T l)] []=some (.one (.ro (.bool (z24 l))),[]):=by
 refine zaf Tryz.func109 yix rfl ?_;simp;unfold z24
 refine zak (λm e=> ∃i,m=l.length-i/\i<=l.length/\e.size=42/\e.get 0=.one (.ro (T l))/\e.get 3=.one (.ro (N i))/\(sufS i (l.drop i)&&inI l.length 1 10)=(sufS 0 l&&inI l.length 1 10))
  ?_ l.length _ ⟨0,rfl,Nat.zero_le _,by simp,by simp,by simp,rfl⟩
 rintro m e ⟨i,rfl,hi,hsz,h0,h3,hr⟩ ih;rcases Nat.lt_or_ge i l.length with hlt|hge
 ·have hwi:IntKind.i64.wrap ((i:Int)+1)=((i+1:Nat):Int):=zae (by omega)
  have hd:l.drop i=l[i]::l.drop (i+1):=List.drop_eq_getElem_cons hlt;rw[hd,sufS]at hr;have hnx:sufS (i+1) (l.drop (i+1))=(l.drop (i+1)).all zgc:=z6b _ (by omega) _
  by_cases hA:97<=l[i].toNat
  ·by_cases hB:l[i].toNat<=122
   ·have hs:lowB l[i]=true:=by simp[lowB,hA,hB]
    rw[hs]at hr;simp only[Bool.true_or,Bool.true_and]at hr;simp[hsz,h0,h3,hlt,hA,hB,hwi];exact ih _ _ (by omega) ⟨i+1,rfl,by omega,by simp[hsz],by simp[h0],by simp,by rw[hnx];exact hr⟩
   ·have hs:lowB l[i]=false:=by simp[lowB,hB]
    have c1:¬l[i].toNat<48:=by omega
    have d1:57<l[i].toNat:=by omega
    have hg:digB l[i]=false:=by have:¬l[i].toNat<=57:=by omega
                                simp[digB,this]
    rw[hs,hg]at hr;simp only[Bool.false_or,Bool.and_false,Bool.false_and]at hr;by_cases hi0:i=0
    ·subst hi0;simp[hsz,h0,h3,hlt,hA,hB,<-hr]
    ·have hb0:(i==0)=false:=by simpa using hi0
     simp[hsz,h0,h3,hlt,hA,hB,hb0,c1,d1,<-hr]
  ·have hs:lowB l[i]=false:=by simp[lowB,hA]
   rw[hs]at hr;simp only[Bool.false_or]at hr;by_cases hi0:i=0
   ·subst hi0;simp at hr;simp[hsz,h0,h3,hlt,hA];exact hr
   ·have hb0:(i==0)=false:=by simpa using hi0
    simp only[ne_eq,hi0,not_false_eq_true,decide_true,Bool.true_and]at hr;by_cases hC:l[i].toNat<48
    ·have hg:digB l[i]=false:=by have:¬48<=l[i].toNat:=by omega
                                 simp[digB,this]
     rw[hg]at hr;simp only[Bool.false_and]at hr;simp[hsz,h0,h3,hlt,hA,hb0,hC,<-hr]
    ·by_cases hD:57<l[i].toNat
     ·have hg:digB l[i]=false:=by have:¬l[i].toNat<=57:=by omega
                                  simp[digB,this]
      rw[hg]at hr;simp only[Bool.false_and]at hr;simp[hsz,h0,h3,hlt,hA,hb0,hC,hD,<-hr]
     ·have hg:digB l[i]=true:=by
       have a1:48<=l[i].toNat:=by omega
       have a2:l[i].toNat<=57:=by omega
       simp[digB,a1,a2]
      rw[hg]at hr;simp only[Bool.true_and]at hr;simp[hsz,h0,h3,hlt,hA,hb0,hC,hD,hwi];exact ih _ _ (by omega) ⟨i+1,rfl,by omega,by simp[hsz],by simp[h0],by simp,by rw[hnx];exact hr⟩
 ·obtain rfl:i=l.length:=by omega
  rw[List.drop_length]at hr;have e0:sufS l.length ([]:List UInt8)=true:=rfl;rw[e0,Bool.true_and]at hr;have hin:=zlk l.length 1 10;simp[hsz,h0,h3,hin,<-hr]
end Go.Qz
namespace Go.Qz
open Go.Proofs
abbrev Fl:=List UInt8×List UInt8
abbrev FD(f:Fl):D:=.agg [T f.1,T f.2]
abbrev FS(fs:List Fl):D:=.sl 2 (fs.map FD)
@[simp] theorem ygg(fs:List Fl):flats (fs.map FD)=true:=by
  induction fs with
  |nil=>rfl
  |cons a r ih=>simp[flats,D.flat,ih]
def cutB:List UInt8->Option (List UInt8×List UInt8)
 | []=>none
 |c::r=>if c==125 then some ([],r)else(cutB r).map λp=>(c::p.1,p.2)
theorem zgw:∀{d n r:List UInt8},cutB d=some (n,r)->d.length=n.length+1+r.length
 | [],n,r,h=>by cases h
 |c::d,n,r,h=>by
  unfold cutB at h;split at h
  ·cases h;simp;omega
  ·obtain⟨p,hp,he⟩:=Option.map_eq_some_iff.1 h;cases he;have:=zgw hp;simp at this ⊢;omega
def zfb:List UInt8->Bool
 |a::b::_=>a==36&&b==123
 |_=>false
def zbc(var:List UInt8->Nat×List UInt8)(out:List UInt8)(text:List UInt8):Nat×List UInt8:=
 match text with
 | []=>if 80<out.length then(5,[])else(0,out)
 |c::r=>if zfb (c::r)then
   match h:cutB (r.drop 1)with
   |none=>(1,[])
   |some p=>if za2 p.1 then
    (if (var p.1).1=0 then(if 80<(out++(var p.1).2).length then(5,[])else zbc var (out++(var p.1).2) p.2)else((var p.1).1,[]))
    else(1,[])
  else zbc var (out++[c]) r
termination_by text.length
decreasing_by
 ·have:=zgw h;simp only[List.length_drop,List.length_cons]at this ⊢;omega
 ·simp
section
variable{var:List UInt8->Nat×List UInt8}{out text:List UInt8}
theorem zeu:zbc var out []=if 80<out.length then(5,[])else(0,out):=by rw[zbc]
theorem zc5{c:UInt8}{r:List UInt8}(h:zfb (c::r)=false):zbc var out (c::r)=zbc var (out++[c]) r:=by rw[zbc];simp[h]
theorem zgx{a b:UInt8}{r:List UInt8}(h:zfb (a::b::r)=true)(hc:cutB r=none):zbc var out (a::b::r)=(1,[]):=by
 rw[zbc];simp only[h,if_true];split
 ·rfl
 ·rename_i p hp;have hp':cutB r=some p:=hp;rw[hc]at hp';cases hp'
theorem zfc{a b:UInt8}{r n rest:List UInt8}(h:zfb (a::b::r)=true)(hc:cutB r=some (n,rest)):zbc var out (a::b::r)=
 if za2 n then(if (var n).1=0 then(if 80<(out++(var n).2).length then(5,[])else zbc var (out++(var n).2) rest)else((var n).1,[]))else(1,[]):=by
 rw[zbc];simp only[h,if_true];split
 ·rename_i hp;have hp':cutB r=none:=hp;rw[hc]at hp';cases hp'
 ·rename_i p hp;have hp':cutB r=some p:=hp;rw[hc]at hp';cases hp';rfl
end
def idxN(n:List UInt8):List Fl->Nat->Int
 | [],_=> -1
 |f::r,i=>if f.1==n then i else idxN n r (i+1)
def zv7(n:List UInt8):List Fl->Option (List UInt8)
 | []=>none
 |f::r=>if f.1==n then some f.2 else zv7 n r
theorem zq0(n:List UInt8):∀(fs:List Fl) (i:Nat),(idxN n fs i= -1/\zv7 n fs=none)∨ ∃k,idxN n fs i=((i+k:Nat):Int)/\ ∃h:k<fs.length,zv7 n fs=some fs[k].2/\fs[k].1=n
 | [],i=>.inl ⟨rfl,rfl⟩
 |f::r,i=>by
  unfold idxN zv7
  cases hf:f.1==n with
  |true=>exact .inr ⟨0,by simp,by simp,by simp,by simpa using hf⟩
  |false=>
   rcases zq0 n r (i+1)with⟨h1,h2⟩|⟨k,h1,h,h2,h3⟩
   ·exact .inl ⟨by simpa using h1,by simpa using h2⟩
   ·refine .inr ⟨k+1,?_,by simpa using h,by simpa using h2,by simpa using h3⟩
    simp only[Bool.false_eq_true,if_false,h1];omega
def zce(lets:List Fl):Nat->zaz->List UInt8->Nat×List UInt8
 |0,_,_=>(4,[])
 |d+1,us,n=>match zv7 n lets with
  |none=>(3,[])
  |some t=>if us.contains n then(4,[])else zbc (zce lets d (us++[n])) [] t
structure Deep(lets:List Fl)(d:Nat)(us:zaz):Prop where
 nodup:us.Nodup
 sub:∀x∈us,x∈lets.map (·.1)
 enough:lets.length+1<=d+us.length
theorem zkl{α:Type}[BEq α][LawfulBEq α]:∀{us l:List α},us.Nodup->(∀x∈us,x∈l)->us.length<=l.length
 | [],l,_,_=>Nat.zero_le _
 |a::us,l,hn,hs=>by
  rw[List.nodup_cons]at hn;have ha:=hs a List.mem_cons_self;have:=zkl (us:=us) (l:=l.erase a) hn.2 (λx hx=>(List.mem_erase_of_ne (λe=>by rw[e]at hx;exact hn.1 hx)).2 (hs x (List.mem_cons_of_mem _ hx)))
  rw[List.length_erase_of_mem ha]at this;have:=List.length_pos_of_mem ha;simp;omega
theorem Deep.pos{lets:List Fl}{d:Nat}{us:zaz}(h:Deep lets d us):0<d:=by
 rcases Nat.eq_zero_or_pos d with rfl|h0
 ·have h1:=zkl h.nodup h.sub;have:=h.enough;simp at h1;omega
 ·exact h0
theorem Deep.next{lets:List Fl}{d:Nat}{us:zaz}{n:List UInt8}(h:Deep lets (d+1) us)(hn:us.contains n=false)(hm:n∈lets.map (·.1)):Deep lets d (us++[n]) where
 nodup:=by
  rw[List.nodup_append];refine⟨h.nodup,by simp,λa ha b hb=>?_⟩
  simp at hb;subst hb;rintro rfl;simp at hn;exact hn ha
 sub:=λx hx=>by
  rcases List.mem_append.1 hx with h1|h1
  ·exact h.sub x h1
  ·simp at h1;subst h1;exact hm
 enough:=by have:=h.enough;simp;omega
end Go.Qz
namespace Go.Qz
open Go.Proofs
def brk(b:UInt8):List UInt8->Option (List UInt8×List UInt8)
 | []=>none
 |c::r=>if c==b then some ([],r)else(brk b r).map λp=>(c::p.1,p.2)
theorem zv8{b:UInt8}:∀{d n r:List UInt8},brk b d=some (n,r)->d=n++b::r
 | [],n,r,h=>by cases h
 |c::d,n,r,h=>by
  unfold brk at h;split at h
  ·rename_i hc;cases h;have:c=b:=by simpa using hc
   rw[this];rfl
  ·obtain⟨p,hp,he⟩:=Option.map_eq_some_iff.1 h;cases he;rw[zv8 (n:=p.1) (r:=p.2) hp];rfl
theorem zxn{b:UInt8}:∀{n:List UInt8} (r:List UInt8),(∀c∈n,c≠b)->brk b (n++b::r)=some (n,r)
 | [],r,_=>by simp[brk]
 |c::n,r,h=>by
  have hc:(c==b)=false:=by have:=h c (by simp);simpa using this
  rw[List.cons_append,brk,hc,zxn r (λb hb=>h b (by simp[hb]))]
  rfl
theorem ztf(b:UInt8):∀d:List UInt8,(brk b d=none/\Lib.index d [b]= -1)∨ ∃n r,brk b d=some (n,r)/\Lib.index d [b]=n.length
 | []=>.inl ⟨rfl,by simp[Lib.index]⟩
 |c::r=>by
  have hb:(b==c)=(c==b):=Bool.beq_comm;unfold brk
  cases hc:c==b with
  |true=>
   refine .inr ⟨[],r,rfl,?_⟩;rw[hc]at hb;simp[Lib.index,List.isPrefixOf,hb]
  |false=>
   rw[hc]at hb
   have h1:Lib.index (c::r) [b]=if Lib.index r [b]== -1 then-1 else Lib.index r [b]+1:=by
    simp[Lib.index,List.isPrefixOf,hb]
   rcases ztf b r with⟨x1,x2⟩|⟨n,q,x1,x2⟩
   ·refine .inl ⟨by rw[x1];rfl,by rw[h1,x2];rfl⟩
   ·refine .inr ⟨c::n,q,by rw[x1];rfl,?_⟩
    rw[h1,x2];have:((n.length:Int)== -1)=false:=by rw[beq_eq_false_iff_ne];omega
    rw[this];simp
theorem z9x(b:UInt8)(d:List UInt8):Lib.cut d [b]=(match brk b d with|some p=>(p.1,p.2,true)|none=>(d,[],false)):=by
 rcases ztf b d with⟨x1,x2⟩|⟨n,r,x1,x2⟩
 ·rw[x1];simp[Lib.cut,x2]
 ·have ha:=zv8 x1;rw[x1];simp only[Lib.cut,x2,if_pos (show (0:Int)<=n.length by omega),Int.toNat_natCast,List.length_singleton]
  rw[ha];simp
def cutP(b:UInt8):Nat->List UInt8->List UInt8->zaz
 |_,pre,[]=>[pre]
 |0,pre,c::r=>[pre++c::r]
 |k+1,pre,c::r=>if c==b then pre::cutP b k [] r else cutP b (k+1) (pre++[c]) r
theorem z25(b:UInt8)(pre s:List UInt8):cutP b 0 pre s=[pre++s]:=by cases s<;>simp[cutP]
theorem zxo(b:UInt8)(k:Nat):∀(s pre:List UInt8),cutP b (k+1) pre s=(match brk b s with|some p=>(pre++p.1)::cutP b k [] p.2|none=>[pre++s])
 | [],pre=>by simp[cutP,brk]
 |c::r,pre=>by
  rw[cutP,brk];split
  ·simp
  ·rw[zxo b k r]
   cases h:brk b r with
   |none=>simp
   |some p=>simp
end Go.Qz
namespace Go.Qz
open Go.Proofs
theorem zxp(s:List UInt8)(b:UInt8)(most:Nat)(m0:Int)(hm0:m0=most)(hs:s.length<=1048576)(hm:most<=2000000):
 C Fn67 [.ro (T s),.ro (.int .u8 b.toNat),.ro (.int .i64 m0)] []=some (.one (.own (SS (cutP b most [] s))),[]):=by
 subst hm0;refine zaf Tryz.func67 Cv67 rfl ?_;simp
 refine zak (λm e=> ∃(out:zaz) (pre rest:List UInt8) (i j:Nat),m=rest.length/\s.drop i=pre++rest/\j=i+pre.length/\j+rest.length=s.length/\out.length<=most/\out.length<=s.length/\out.length<=i/\e.size=43/\e.get 0=.one (.ro (T s))/\e.get 1=.one (.ro (.int .u8 b.toNat))/\e.get 2=.one (.ro (N most))/\e.get 7=.one (.own (SS out))/\
  e.get 8=.one (.ro (N i))/\e.get 9=.one (.ro (N j))/\out++cutP b (most-out.length) pre rest=cutP b most [] s)
  ?_ s.length _ ⟨[],[],s,0,0,rfl,rfl,rfl,by simp,by simp,by simp,by simp,by simp,by simp,by simp,by simp,by simp,by simp,by simp,by simp⟩
 rintro m e ⟨out,pre,rest,i,j,rfl,hd,hj,hjl,ho,hos,hoi,hsz,h0,h1,h2,h7,h8,h9,hr⟩ ih;have ha:out.length+1<=zad:=by simp[zad];omega
 have hil:i<=s.length:=by omega
 have hil':(i:Int)<=s.length:=by omega
 have fin:List.drop i (List.take s.length s)=pre++rest:=by rw[List.take_length];exact hd
 cases rest with
 |nil=>
  have hlt:¬j<s.length:=by simp at hjl;omega
  rw[cutP]at hr;simp at fin;simp[hsz,h0,h2,h7,h8,h9,hlt,ha,hil',hd,<-hr]
 |cons c r=>
  have hlt:j<s.length:=by simp at hjl;omega
  by_cases hmo:out.length<most
  ·have hget:s[j]=c:=by
    have h3:(s.drop i)[pre.length]? =some c:=by rw[hd];simp
    rw[List.getElem?_drop,<-hj,List.getElem?_eq_getElem hlt]at h3;exact Option.some.inj h3
   have hsl:List.drop i (List.take j s)=pre:=by
    rw[List.drop_take,hd,hj,Nat.add_sub_cancel_left,List.take_left]
   have hij:i<=j:=by omega
   have hjs:j<=s.length:=by omega
   have hij':(i:Int)<=j:=by omega
   have hwj:IntKind.i64.wrap ((j:Int)+1)=((j+1:Nat):Int):=zae (by omega)
   have hsd:s.drop (j+1)=r:=by
    have h3:(s.drop i).drop (pre.length+1)=r:=by rw[hd];simp
    rw[List.drop_drop]at h3;rw[<-h3];congr 1;omega
   have hk:most-out.length=(most-out.length-1)+1:=by omega
   rw[hk,cutP]at hr
   cases hcb:c==b with
   |true=>
    obtain rfl:c=b:=by simpa using hcb
    rw[if_pos hcb]at hr;simp[hsz,h0,h1,h2,h7,h8,h9,hlt,ha,hmo,hget,hij',hjs,hwj,hsl]
    exact ih _ _ (by simp) ⟨out++[pre],[],r,j+1,j+1,rfl,by simp[hsd],by simp,by simp at hjl ⊢;omega,by simp;omega,by simp;omega,by simp;omega,by simp[hsz],by simp[h0],by simp[h1],by simp[h2],by simp,by simp,by simp,by
     rw[<-hr];simp[show most-(out.length+1)=most-out.length-1 by omega]⟩
   |false=>
    have hne:¬c=b:=by simpa using hcb
    have hne':(c.toNat==b.toNat)=false:=by rw[beq_eq_false_iff_ne];exact λh=>hne (UInt8.toNat_inj.1 h)
    rw[if_neg (by simp[hcb])]at hr
    simp[hsz,h0,h1,h2,h7,h9,hlt,hmo,hget,hwj,hne'];refine ih r.length _ (by simp) ⟨out,pre++[c],r,i,j+1,rfl,by simp[hd],by simp;omega,by simp at hjl ⊢;omega,ho,hos,hoi,by simp[hsz],by simp[h0],by simp[h1],by simp[h2],by simp[h7],by simp[h8],by simp,?_⟩
    rw[<-hr,<-hk]
  ·have hmo':most-out.length=0:=by omega
   rw[hmo',cutP]at hr;simp[hsz,h0,h2,h7,h8,h9,hlt,ha,hmo,hil',hd,<-hr]
end Go.Qz
namespace Go.Qz
open Go.Proofs
def figB(b:UInt8):Bool:=decide (48<=b.toNat)&&decide (b.toNat<=57)
def goN:Nat->List UInt8->Option Nat
 |n,[]=>some n
 |n,c::r=>if figB c then goN (n*10+(c.toNat-48)) r else none
def zmg(l:List UInt8):Bool:=match l with
 |c::_::_=>c==48
 |_=>false
def numS(l:List UInt8):Int:=match goN 0 l with
 |some n=>if decide (l.length<=6)&& !l.isEmpty&& !zmg l then n else-1
 |none=> -1
def numI(l:List UInt8)(most:Nat):Nat×Bool:=if l.isEmpty||decide (9<l.length)||zmg l then(0,false)else match goN 0 l with
 |some n=>if most<n then(0,false)else(n,true)
 |none=>(0,false)
def numV(o:Option Nat)(most:Nat):Nat×Bool:=match o with
 |some n=>if most<n then(0,false)else(n,true)
 |none=>(0,false)
theorem z26{c:UInt8}(h:figB c=true):IntKind.u8.wrap ((c.toNat:Int)-48)=((c.toNat-48:Nat):Int)/\ ¬c.toNat<48/\ ¬57<c.toNat/\c.toNat-48<=9:=by
 unfold figB at h;simp only[Bool.and_eq_true,decide_eq_true_eq]at h;refine⟨?_,by omega,by omega,by omega⟩
 show ((c.toNat:Int)-48) % 256=_;omega
theorem z27{c:UInt8}(h:figB c=false):c.toNat<48∨(¬c.toNat<48/\57<c.toNat):=by
 unfold figB at h;simp only[Bool.and_eq_false_iff,decide_eq_false_iff_not]at h;omega
theorem zob(l:List UInt8)(most:Nat)(hlen:l.length<=9)(_:most<=1000000)(e:Env)(hsz:e.size=53)(h0:e.get 0=.one (.ro (T l)))(h1:e.get 1=.one (.ro (N most)))(h6:e.get 6=.one (.ro (N 0)))(h26:e.get 26=.one (.ro (N l.length)))(h27:e.get 27=.one (.ro (N 0))):
 Run cx q174l0.loop e [Fr.blk 0,Fr.seq q174c4,Fr.fn [(ResultVar.tmp 4,3),(ResultVar.tmp 5,4)] []]=some (.tup [.ro (N (numV (goN 0 l) most).1),.ro (.bool (numV (goN 0 l) most).2)],[]):=by
 refine zak (λm e=> ∃i n,m=l.length-i/\i<=l.length/\n<10^i/\e.size=53/\e.get 0=.one (.ro (T l))/\e.get 1=.one (.ro (N most))/\e.get 6=.one (.ro (N n))/\e.get 26=.one (.ro (N l.length))/\e.get 27=.one (.ro (N i))/\goN n (l.drop i)=goN 0 l)
  ?_ l.length _ ⟨0,0,rfl,Nat.zero_le _,by simp,hsz,h0,h1,h6,h26,h27,rfl⟩
 clear hsz h0 h1 h6 h26 h27;rintro m e ⟨i,n,rfl,hi,hn,hsz,h0,h1,h6,h26,h27,hr⟩ ih;rcases Nat.lt_or_ge i l.length with hlt|hge
 ·have hp:10^i<=10^8:=Nat.pow_le_pow_right (by omega) (by omega)
  have hp2:10^(i+1)=10^i*10:=Nat.pow_succ _ _;have hwi:IntKind.i64.wrap ((i:Int)+1)=((i+1:Nat):Int):=zae (by omega)
  have hd:l.drop i=l[i]::l.drop (i+1):=List.drop_eq_getElem_cons hlt;rw[hd,goN]at hr;obtain⟨c,hc⟩:∃c,l[i]=c:=⟨_,rfl⟩;rw[hc]at hr
  cases hf:figB c with
  |false=>
   rw[hf]at hr;simp only[Bool.false_eq_true,if_false]at hr;rcases z27 hf with h|⟨h,h'⟩
   ·simp[hsz,h0,h26,h27,hlt,hc,h,<-hr,numV]
   ·simp[hsz,h0,h26,h27,hlt,hc,h,h',<-hr,numV]
  |true=>
   rw[hf]at hr;simp only[if_true]at hr;obtain⟨g1,g2,g3,g4⟩:=z26 hf;generalize c.toNat-48=d at *;have hw1:IntKind.i64.wrap ((n:Int)*10)=((n*10:Nat):Int):=by rw[wrap64 (by omega) (by omega)];omega
   have hw2:IntKind.i64.wrap (d:Int)=d:=wrap64 (by omega) (by omega)
   have hw3:IntKind.i64.wrap (((n*10:Nat):Int)+(d:Int))=((n*10+d:Nat):Int):=by rw[wrap64 (by omega) (by omega)];omega
   have hlt2:n*10+d<10^(i+1):=by omega
   generalize n*10+d=q at *;generalize n*10=p at *;simp[hsz,h0,h6,h26,h27,hlt,hc,g1,g2,g3,hwi,hw1,hw2,hw3];exact ih _ _ (by omega) ⟨i+1,q,rfl,by omega,hlt2,by simp[hsz],by simp[h0],by simp[h1],by simp,by simp[h26],by simp,hr⟩
 ·obtain rfl:i=l.length:=by omega
  rw[List.drop_length,goN]at hr;by_cases hmn:most<n
  ·simp[hsz,h1,h6,h26,h27,hmn,<-hr,numV]
  ·simp[hsz,h1,h6,h26,h27,hmn,<-hr,numV]
theorem z28(l:List UInt8)(most:Nat)(m0:Int)(hm0:m0=most)(hl:l.length<=1048576)(hm:most<=1000000):
 C ynh [.ro (T l),.ro (.int .i64 m0)] []=some (.tup [.ro (N (numI l most).1),.ro (.bool (numI l most).2)],[]):=by
 subst hm0;refine zaf Tryz.func174 ynp rfl ?_;unfold numI
 cases l with
 |nil=>simp
 |cons c0 r0=>
  by_cases h9:9<r0.length+1
  ·have h9':(9:Int)<(r0.length:Int)+1:=by omega
   simp[h9,h9']
  ·have h9':¬(9:Int)<(r0.length:Int)+1:=by omega
   have hlead:zmg (c0::r0)=(decide ((1:Int)<(r0.length:Int)+1)&&c0==48):=by
    cases r0 with
    |nil=>simp[zmg]
    |cons b q=>simp[zmg];omega
   cases hl0:zmg (c0::r0)with
   |true=>
    rw[hl0]at hlead
    have h1:(1:Int)<(r0.length:Int)+1:=by
     by_cases h:(1:Int)<(r0.length:Int)+1
     ·exact h
     ·simp[h]at hlead
    have h2:(c0==48)=true:=by simpa [h1]using hlead.symm
    simp[h9,h9',h1,h2]
   |false=>
    rw[hl0]at hlead
    have hg:(if (List.isEmpty (c0::r0)||decide (9<List.length (c0::r0))||false)=true then((0:Nat),false)else match goN 0 (c0::r0)with
     |some n=>if most<n then(0,false)else(n,true)
     |none=>(0,false))=numV (goN 0 (c0::r0)) most:=by
     rw[if_neg (by simp;omega)]
     rfl
    rw[hg];have hlen:(c0::r0).length<=9:=by simp;omega
    by_cases h1:(1:Int)<(r0.length:Int)+1
    ·have h2:(c0==48)=false:=by simpa [h1]using hlead.symm
     simp[h9',h1,h2];exact zob (c0::r0) most hlen hm _ (by simp) (by simp) (by simp) (by simp) (by simp) (by simp)
    ·simp[h9',h1];exact zob (c0::r0) most hlen hm _ (by simp) (by simp) (by simp) (by simp) (by simp) (by simp)
end Go.Qz
namespace Go.Qz
open Go.Proofs
theorem z29{l:List UInt8}(h:6<l.length):numS l= -1:=by
 unfold numS;split
 ·rw[show decide (l.length<=6)=false by simp;omega]
  simp
 ·rfl
theorem z6c(l:List UInt8)(hl:l.length<=1048576):C yoq [.ro (T l)] []=some (.one (.ro (I (numS l))),[]):=by
 refine zaf Tryz.func184 yox rfl ?_;simp
 refine zak (λm e=> ∃i n,m=l.length-i/\i<=l.length/\i<=6/\n<10^i/\e.size=47/\e.get 0=.one (.ro (T l))/\e.get 3=.one (.ro (N n))/\e.get 4=.one (.ro (N i))/\goN n (l.drop i)=goN 0 l)
  ?_ l.length _ ⟨0,0,rfl,Nat.zero_le _,by omega,by simp,by simp,by simp,by simp,by simp,rfl⟩
 rintro m e ⟨i,n,rfl,hi,hi6,hn,hsz,h0,h3,h4,hr⟩ ih;rcases Nat.lt_or_ge i l.length with hlt|hge
 ·have hp:10^i<=10^8:=Nat.pow_le_pow_right (by omega) (by omega)
  have hp2:10^(i+1)=10^i*10:=Nat.pow_succ _ _;have hwi:IntKind.i64.wrap ((i:Int)+1)=((i+1:Nat):Int):=zae (by omega)
  have hd:l.drop i=l[i]::l.drop (i+1):=List.drop_eq_getElem_cons hlt;rw[hd,goN]at hr;obtain⟨c,hc⟩:∃c,l[i]=c:=⟨_,rfl⟩;rw[hc]at hr
  cases hf:figB c with
  |false=>
   rw[hf]at hr;simp only[Bool.false_eq_true,if_false]at hr;have hnum:numS l= -1:=by unfold numS;rw[<-hr]
   rcases z27 hf with h|⟨h,h'⟩
   ·simp[hsz,h0,h4,hlt,hc,h,hnum]
   ·simp[hsz,h0,h4,hlt,hc,h,h',hnum]
  |true=>
   rw[hf]at hr;simp only[if_true]at hr;obtain⟨g1,g2,g3,g4⟩:=z26 hf;by_cases h6:6<=i
   ·have hnum:=z29 (l:=l) (by omega)
    have h6':(6:Int)<=i:=by omega
    simp[hsz,h0,h4,hlt,hc,g2,g3,h6',hnum]
   ·have h6':¬(6:Int)<=i:=by omega
    generalize c.toNat-48=d at *;have hw1:IntKind.i64.wrap ((n:Int)*10)=((n*10:Nat):Int):=by rw[wrap64 (by omega) (by omega)];omega
    have hw2:IntKind.i64.wrap (d:Int)=d:=wrap64 (by omega) (by omega)
    have hw3:IntKind.i64.wrap (((n*10:Nat):Int)+(d:Int))=((n*10+d:Nat):Int):=by rw[wrap64 (by omega) (by omega)];omega
    have hlt2:n*10+d<10^(i+1):=by omega
    generalize n*10+d=q at *;generalize n*10=p at *;simp[hsz,h0,h3,h4,hlt,hc,g1,g2,g3,h6',hwi,hw1,hw2,hw3];exact ih _ _ (by omega) ⟨i+1,q,rfl,by omega,by omega,hlt2,by simp[hsz],by simp[h0],by simp,by simp,hr⟩
 ·obtain rfl:i=l.length:=by omega
  rw[List.drop_length,goN]at hr;unfold numS;rw[<-hr];clear ih hr
  match l,hi6,hsz,h0,h3,h4 with
  | [],_,hsz,h0,h3,h4=>simp[hsz,h0,h4]
  | [c],_,hsz,h0,h3,h4=>simp[hsz,h0,h3,h4,zmg]
  |c::b::r,hi6,hsz,h0,h3,h4=>
   simp only[List.length_cons]at hi6;have h1:(1:Int)<(r.length:Int)+1+1:=by omega
   have hne:((r.length:Int)+1+1==0)=false:=by rw[beq_eq_false_iff_ne];omega
   have h6:r.length+1+1<=6:=by omega
   cases hc:c==48 with
   |true=>simp[hsz,h0,h4,zmg,h1,hne,hc,h6]
   |false=>simp[hsz,h0,h3,h4,zmg,h1,hne,hc,h6]
end Go.Qz
namespace Go.Qz
open Go.Proofs
def idxL(n:List UInt8):zaz->Nat->Int
 | [],_=> -1
 |x::r,i=>if n==x then(i:Int)else idxL n r (i+1)
theorem z6d(n:List UInt8):∀(xs:zaz) (i:Nat),decide (idxL n xs i≥0)=xs.contains n:=by
 intro xs
 induction xs with
 |nil=>intro i;rfl
 |cons x r ih=>
  intro i;rw[idxL,List.contains_cons]
  cases h:n==x with
  |true=>simp
  |false=>simp[ih]
theorem z6e(xs:zaz)(n:List UInt8)(hn:xs.length<=140737488351232):C yn3 [.ro (SS xs),.ro (T n)] []=some (.one (.ro (I (idxL n xs 0))),[]):=by
 refine zaf Tryz.func178 yn8 rfl ?_;simp
 refine zak (λm e=> ∃i,m=xs.length-i/\i<=xs.length/\e.size=19/\e.get 0=.one (.ro (SS xs))/\e.get 1=.one (.ro (T n))/\e.get 7=.one (.ro (N xs.length))/\e.get 8=.one (.ro (N i))/\
  idxL n (xs.drop i) i=idxL n xs 0) ?_ xs.length _ ⟨0,rfl,Nat.zero_le _,by simp,by simp,by simp,by simp,by simp,rfl⟩
 rintro m e ⟨i,rfl,hi,hsz,h0,h1,h7,h8,hr⟩ ih;rcases Nat.lt_or_ge i xs.length with hlt|hge
 ·have hd:xs.drop i=xs[i]::xs.drop (i+1):=List.drop_eq_getElem_cons hlt;have hwi:IntKind.i64.wrap ((i:Int)+1)=((i+1:Nat):Int):=zae (by omega)
  rw[hd,idxL]at hr
  cases hp:n==xs[i]with
  |true=>
   rw[hp,if_pos rfl]at hr;simp[hsz,h0,h1,h7,h8,hlt,hp,<-hr]
  |false=>
   rw[hp]at hr;simp only[Bool.false_eq_true,if_false]at hr;simp[hsz,h0,h1,h7,h8,hlt,hwi,hp];exact ih _ _ (by omega) ⟨i+1,rfl,by omega,by simp[hsz],by simp[h0],by simp[h1],by simp[h7],by simp,hr⟩
 ·obtain rfl:i=xs.length:=by omega
  rw[List.drop_length,idxL]at hr;simp[hsz,h7,h8,<-hr]
theorem zfd(xs:zaz)(n:List UInt8)(hn:xs.length<=140737488351232):C yl0 [.ro (SS xs),.ro (T n)] []=some (.one (.ro (.bool (xs.contains n))),[]):=by
 refine zaf Tryz.func152 yl1 rfl ?_;have h:=z6e xs n hn;have h2:=z6d n xs 0;generalize idxL n xs 0=q at *;rw[<-h2];simp[h]
end Go.Qz
namespace Go.Qz
open Go.Proofs
def zbm(b:UInt8):Bool:=(decide (97<=b.toNat)&&decide (b.toNat<=122))||(decide (48<=b.toNat)&&decide (b.toNat<=57))||b==46||b==95||b==45
def zh3(l:List UInt8):Bool:=decide (l.length<=10)&& !(l==[46])&& !(l==[46,46])&&l.all zbm&& !l.isEmpty
theorem zgy(b:UInt8):C ypg [.ro (.int .u8 b.toNat)] []=some (.one (.ro (.bool (zbm b))),[]):=by
 refine zaf Tryz.func195 yph rfl ?_;unfold zbm;by_cases h1:97<=b.toNat<;>by_cases h2:b.toNat<=122<;>by_cases h3:48<=b.toNat<;>by_cases h4:b.toNat<=57<;>cases h5:b==46<;>cases h6:b==95<;>simp[h1,h2,h3,h4,h5,h6]
theorem zmc(l:List UInt8)(hl:l.length<=140737488351232):C ynq [.ro (T l)] []=some (.one (.ro (.bool (l.all zbm&& !l.isEmpty))),[]):=by
 refine zaf Tryz.func175 ynv rfl ?_;simp
 refine zak (λm e=> ∃i,m=l.length-i/\i<=l.length/\e.size=17/\e.get 0=.one (.ro (T l))/\e.get 5=.one (.ro (N l.length))/\e.get 6=.one (.ro (N i))/\
  (l.drop i).all zbm=l.all zbm) ?_ l.length _ ⟨0,rfl,Nat.zero_le _,by simp,by simp,by simp,by simp,rfl⟩
 rintro m e ⟨i,rfl,hi,hsz,h0,h5,h6,hr⟩ ih;rcases Nat.lt_or_ge i l.length with hlt|hge
 ·have hd:l.drop i=l[i]::l.drop (i+1):=List.drop_eq_getElem_cons hlt;have hwi:IntKind.i64.wrap ((i:Int)+1)=((i+1:Nat):Int):=zae (by omega)
  rw[hd,List.all_cons]at hr
  cases hp:zbm l[i]with
  |false=>
   rw[hp]at hr;simp[zgy,hsz,h0,h5,h6,hlt,hp,<-hr]
  |true=>
   rw[hp,Bool.true_and]at hr;simp[zgy,hsz,h0,h5,h6,hlt,hwi,hp];exact ih _ _ (by omega) ⟨i+1,rfl,by omega,by simp[hsz],by simp[h0],by simp[h5],by simp,hr⟩
 ·obtain rfl:i=l.length:=by omega
  rw[List.drop_length,List.all_nil]at hr
  cases l with
  |nil=>simp[hsz,h0,h5,h6,<-hr]
  |cons c r=>simp[hsz,h0,h5,h6,<-hr]
theorem z3a(l:List UInt8)(hl:l.length<=140737488351232):C ylh [.ro (T l)] []=some (.one (.ro (.bool (zh3 l))),[]):=by
 refine zaf Tryz.func147 yli rfl ?_;have h:=zmc l hl;unfold zh3;by_cases h1:l.length<=10
 ·cases h2:l==[46]
  ·cases h3:l==[46,46]<;>simp[h1,h2,h3,h]
  ·simp[h1,h2]
 ·simp[h1]
theorem zgz(b:UInt8)(l:List UInt8):zav b l≠[]:=by
 cases l with
 |nil=>simp[zav]
 |cons c r=>
  rw[zav];split
  ·simp
  ·split<;>simp
theorem zfe(b:UInt8):∀(l x:List UInt8),x∈zav b l->x.length<=l.length
 | [],x,h=>by simp[zav]at h;simp[h]
 |c::r,x,h=>by
  have ih:=zfe b r;rw[zav]at h;split at h
  ·rcases List.mem_cons.1 h with rfl|h
   ·simp
   ·have:=ih x h;simp;omega
  ·cases hq:zav b r with
   |nil=>exact absurd hq (zgz b r)
   |cons y t=>
    rw[hq]at h ih;simp only at h;rcases List.mem_cons.1 h with rfl|h
    ·have:=ih y (by simp);simp;omega
    ·have:=ih x (by simp[h]);simp;omega
end Go.Qz
namespace Go.Qz
open Go.Proofs
theorem zdb(b:UInt8):C ymf [.ro (.int .u8 b.toNat)] []=some (.one (.ro (.bool (zbm b))),[]):=by
 refine zaf Tryz.func157 ymg rfl ?_;unfold zbm;by_cases h1:97<=b.toNat<;>by_cases h2:b.toNat<=122<;>by_cases h3:48<=b.toNat<;>by_cases h4:b.toNat<=57<;>cases h5:b==46<;>cases h6:b==95<;>simp[h1,h2,h3,h4,h5,h6]
def z6f(l:List UInt8):Bool:=l.all zbm&&(inI l.length 1 10&& !(l==[46])&& !(l==[46,46]))
theorem z6g(l:List UInt8):z6f l=zh3 l:=by
 unfold z6f zh3 inI
 cases l with
 |nil=>simp
 |cons c r=>
  have h1:(1:Int)<=((c::r).length:Nat):=by simp
  have h2:(((c::r).length:Nat):Int)<=10↔(c::r).length<=10:=by omega
  simp only[h1,decide_true,Bool.true_and,decide_eq_decide.2 h2,List.isEmpty_cons,Bool.not_false,Bool.and_true];rw[Bool.and_comm]
theorem z3b(l:List UInt8)(hl:l.length<=140737488351232):C ydo [.ro (T l)] []=some (.one (.ro (.bool (zh3 l))),[]):=by
 refine zaf Tryz.func107 yin rfl ?_;rw[<-z6g];simp
 refine zak (λm e=> ∃i,m=l.length-i/\i<=l.length/\e.size=26/\e.get 0=.one (.ro (T l))/\e.get 3=.one (.ro (N i))/\
  (l.drop i).all zbm=l.all zbm) ?_ l.length _ ⟨0,rfl,Nat.zero_le _,by simp,by simp,by simp,rfl⟩
 rintro m e ⟨i,rfl,hi,hsz,h0,h3,hr⟩ ih;rcases Nat.lt_or_ge i l.length with hlt|hge
 ·have hd:l.drop i=l[i]::l.drop (i+1):=List.drop_eq_getElem_cons hlt;have hwi:IntKind.i64.wrap ((i:Int)+1)=((i+1:Nat):Int):=zae (by omega)
  rw[hd,List.all_cons]at hr
  cases hp:zbm l[i]with
  |false=>
   rw[hp]at hr;simp[zdb,hsz,h0,h3,hlt,hp,z6f,<-hr]
  |true=>
   rw[hp,Bool.true_and]at hr;simp[zdb,hsz,h0,h3,hlt,hwi,hp];exact ih _ _ (by omega) ⟨i+1,rfl,by omega,by simp[hsz],by simp[h0],by simp,hr⟩
 ·obtain rfl:i=l.length:=by omega
  rw[List.drop_length,List.all_nil]at hr;have hin:=zlk l.length 1 10;unfold z6f;rw[<-hr]
  cases hq:inI l.length 1 10 with
  |false=>
   rw[hq]at hin;simp[hsz,h0,h3,hin]
  |true=>
   rw[hq]at hin;cases h1:l==[46]
   ·cases h2:l==[46,46]<;>simp[hsz,h0,h3,hin,h1,h2]
   ·simp[hsz,h0,h3,hin,h1]
theorem zv9(b:UInt8):∀(s pre:List UInt8) (k:Nat),s.length<=k->cutP b k pre s=(match zav b s with|x::r=>(pre++x)::r| []=>[])
 | [],pre,k,_=>by simp[cutP,zav]
 |c::r,pre,0,h=>by simp at h
 |c::r,pre,k+1,h=>by
  have ih1:=zv9 b r [] k (by simpa using h)
  have ih2:=zv9 b r (pre++[c]) (k+1) (by simp at h;omega)
  have hne:=zgz b r;rw[cutP,zav,ih1,ih2]
  cases hq:zav b r with
  |nil=>exact absurd hq hne
  |cons y t=>
   cases hc:c==b with
   |true=>have:c=b:=by simpa using hc
          simp[this]
   |false=>have:¬c=b:=by simpa using hc
           simp[this]
theorem z6h(b:UInt8)(s:List UInt8)(k:Nat)(h:s.length<=k):cutP b k [] s=zav b s:=by
 rw[zv9 b s [] k h]
 cases hq:zav b s with
 |nil=>exact absurd hq (zgz b s)
 |cons y t=>rfl
theorem zff(b:UInt8):∀s:List UInt8,(zav b s).length<=s.length+1
 | []=>by simp[zav]
 |c::r=>by
  have ih:=zff b r;rw[zav];split
  ·simp;omega
  ·cases hq:zav b r with
   |nil=>simp
   |cons y t=>rw[hq]at ih;simp at ih ⊢;omega
theorem zjn(s:List UInt8)(b:UInt8)(c:Int)(hc:c=b.toNat)(hs:s.length<=1048576):C Fn67 [.ro (T s),.ro (.int .u8 c),.ro (.int .i64 ((s.length:Int)+1))] []=some (.one (.own (SS (zav b s))),[]):=by
 subst hc;rw[zxp s b (s.length+1) _ (by omega) hs (by omega),z6h b s _ (by omega)]
end Go.Qz
namespace Go.Qz
open Go.Proofs
theorem zd8(n:Nat)(h:n<10):Lib.decDigits n=[UInt8.ofNat (48+n)]:=by rw[Lib.decDigits,dif_pos h]
theorem zgd(n:Nat)(h:10<=n):Lib.decDigits n=Lib.decDigits (n/10)++[UInt8.ofNat (48+n % 10)]:=by rw[Lib.decDigits,dif_neg (by omega)]
theorem ztg:∀(k n:Nat),n<10^(k+1)->(Lib.decDigits n).length<=k+1
 |0,n,h=>by rw[zd8 n (by simpa using h)];simp
 |k+1,n,h=>by
  rcases Nat.lt_or_ge n 10 with h1|h1
  ·rw[zd8 n h1];simp
  ·rw[zgd n h1,List.length_append];have:=ztg k (n/10) (by rw[Nat.pow_succ]at h;omega)
   simp only[List.length_singleton];omega
end Go.Qz
namespace Go.Qz
open Go.Proofs
theorem zwa(c:UInt8):∀(l:List UInt8) (a:Nat),goN a (l++[c])=(goN a l).bind λm=>if figB c then some (m*10+(c.toNat-48))else none
 | [],a=>by simp only[List.nil_append,goN,Option.bind_some]
 |b::l,a=>by
  rw[List.cons_append,goN,goN];split
  ·exact zwa c l _
  ·rfl
theorem z8m:∀(l:List UInt8) (a m:Nat),goN a l=some m->a<=m
 | [],a,m,h=>by cases h;exact Nat.le_refl _
 |b::l,a,m,h=>by
  unfold goN at h;split at h
  ·have:=z8m l _ m h;omega
  ·cases h
theorem zth(d:Nat)(h:d<10):figB (UInt8.ofNat (48+d))=true/\(UInt8.ofNat (48+d)).toNat=48+d:=by
 have h1:(UInt8.ofNat (48+d)).toNat=48+d:=by
  rw[UInt8.toNat_ofNat'];omega
 refine⟨?_,h1⟩;unfold figB;rw[h1];simp;omega
theorem z9y(n:Nat):goN 0 (Lib.decDigits n)=some n:=by
 induction n using Nat.strongRecOn with
 |_ n ih=>
  rcases Nat.lt_or_ge n 10 with h|h
  ·rw[zd8 n h,goN];obtain⟨h1,h2⟩:=zth n h;rw[if_pos h1,h2];simp[goN]
  ·rw[zgd n h,zwa,ih (n/10) (by omega)]
   obtain⟨h1,h2⟩:=zth (n % 10) (Nat.mod_lt _ (by omega))
   simp only[Option.bind_some];rw[if_pos h1,h2];congr 1;omega
theorem z6i(n:Nat)(hn:0<n):∃c r,Lib.decDigits n=c::r/\(c==48)=false:=by
 induction n using Nat.strongRecOn with
 |_ n ih=>
  rcases Nat.lt_or_ge n 10 with h|h
  ·refine⟨_,[],zd8 n h,?_⟩;obtain⟨h1,h2⟩:=zth n h;rw[beq_eq_false_iff_ne];intro e;rw[e]at h2;simp at h2;omega
  ·obtain⟨c,r,h1,h2⟩:=ih (n/10) (by omega) (by omega)
   rw[zgd n h,h1];exact⟨c,r++[UInt8.ofNat (48+n % 10)],rfl,h2⟩
theorem z6j(n:Nat):zmg (Lib.decDigits n)=false:=by
 rcases Nat.lt_or_ge n 10 with h|h
 ·rw[zd8 n h];rfl
 ·obtain⟨c,r,h1,h2⟩:=z6i n (by omega)
  rw[h1]
  cases r with
  |nil=>rfl
  |cons b r=>exact h2
theorem yec(n:Nat):Lib.decDigits n≠[]:=by
 rcases Nat.lt_or_ge n 10 with h|h
 ·rw[zd8 n h];simp
 ·rw[zgd n h];simp
theorem z9z(n:Nat):∀b∈Lib.decDigits n,figB b=true:=by
 induction n using Nat.strongRecOn with
 |_ n ih=>
  rcases Nat.lt_or_ge n 10 with h|h
  ·rw[zd8 n h];intro b hb;rw[List.mem_singleton]at hb;subst hb;exact(zth n h).1
  ·rw[zgd n h];intro b hb;rcases List.mem_append.1 hb with h1|h1
   ·exact ih (n/10) (by omega) b h1
   ·rw[List.mem_singleton]at h1;subst h1;exact(zth (n % 10) (Nat.mod_lt _ (by omega))).1
theorem zti(n:Nat)(h:n<=999):(Lib.decDigits n).length<=3:=ztg 2 n (by omega)
theorem z6k{c:UInt8}(h:figB c=true):UInt8.ofNat (48+(c.toNat-48))=c/\c.toNat-48<10:=by
 unfold figB at h;simp only[Bool.and_eq_true,decide_eq_true_eq]at h;refine⟨?_,by omega⟩
 rw[show 48+(c.toNat-48)=c.toNat by omega]
 exact UInt8.ofNat_toNat
theorem zwb:∀(l:List UInt8) (a m:Nat),goN a l=some m-> ∀b∈l,figB b=true
 | [],_,_,_=> λb hb=>by simp at hb
 |c::l,a,m,h=>by
  unfold goN at h;split at h
  ·rename_i hc;intro b hb;rcases List.mem_cons.1 hb with rfl|hb
   ·exact hc
   ·exact zwb l _ m h b hb
  ·cases h
theorem yed:∀(k:Nat) (l:List UInt8) (n:Nat),l.length<=k->l≠[]->zmg l=false->goN 0 l=some n->Lib.decDigits n=l:=by
 intro k
 induction k with
 |zero=>
  intro l n hk hne;exact absurd (List.length_eq_zero_iff.1 (by omega)) hne
 |succ k ih=>
  intro l n hk hne hld hg;rcases List.eq_nil_or_concat l with rfl|⟨l',c,rfl⟩
  ·exact absurd rfl hne
  ·have hc:figB c=true:=zwb _ 0 n hg c (by simp)
   obtain⟨e1,e2⟩:=z6k hc;rw[List.concat_eq_append]at hg hld ⊢;rw[zwa]at hg
   cases l' with
   |nil=>
    simp only[goN,Option.bind_some,if_pos hc,Option.some.injEq]at hg;simp only[List.nil_append];rw[<-hg,zd8 _ (by omega)]
    rw[show 48+(0*10+(c.toNat-48))=48+(c.toNat-48) by omega,e1]
   |cons x r=>
    cases hm:goN 0 (x::r)with
    |none=>rw[hm]at hg;cases hg
    |some m=>
     rw[hm]at hg;simp only[Option.bind_some,if_pos hc,Option.some.injEq]at hg
     have hx:(x==48)=false:=by
      cases r with
      |nil=>exact hld
      |cons y r=>exact hld
     have hl2:zmg (x::r)=false:=by
      cases r with
      |nil=>rfl
      |cons y r=>exact hx
     have hih:=ih (x::r) m (by simp at hk ⊢;omega) (by simp) hl2 hm
     have hpos:1<=m:=by
      have hxf:figB x=true:=zwb _ 0 m hm x (by simp)
      unfold goN at hm;rw[if_pos hxf]at hm;have:=z8m r _ m hm
      have hne48:x.toNat≠48:=by
       intro e;have:x=48:=UInt8.toNat_inj.1 e;rw[this]at hx;simp at hx
      unfold figB at hxf;simp only[Bool.and_eq_true,decide_eq_true_eq]at hxf;omega
     rw[zgd n (by omega),<-hg,show (m*10+(c.toNat-48))/10=m by omega,show (m*10+(c.toNat-48)) % 10=c.toNat-48 by omega,hih,e1]
theorem z6l(n:Nat)(h2:n<=999):numS (Lib.decDigits n)=n:=by
 have h3:=zti n h2
 have h4:(Lib.decDigits n).isEmpty=false:=by
  cases h:Lib.decDigits n with
  |nil=>exact absurd h (yec n)
  |cons c r=>rfl
 unfold numS;rw[z9y,z6j,h4];simp only;rw[if_pos (by simp;omega)]
theorem z3c{l:List UInt8}{m x:Nat}(h:numI l m=(x,true)):Lib.decDigits x=l:=by
 unfold numI at h;split at h
 ·cases h
 ·rename_i hc;simp only[Bool.or_eq_true,not_or,Bool.not_eq_true,List.isEmpty_eq_false_iff,decide_eq_false_iff_not]at hc;split at h
  ·rename_i n hn;split at h
   ·cases h
   ·cases h;exact yed l.length l _ (Nat.le_refl _) hc.1.1 hc.2 hn
  ·cases h
theorem zwc{l:List UInt8}{m:Nat}(_:(numI l m).2=true):(numI l m).1<=m:=by
 unfold numI;split
 ·simp
 ·split
  ·split
   ·simp
   ·simp only;omega
  ·simp
theorem yee{l:List UInt8}{m x:Nat}(h:numI l m=(x,true))(hm:m<=999):numS l=x:=by
 have h1:=z3c h;have h2:x<=m:=by have:=zwc (l:=l) (m:=m) (by rw[h]);rw[h]at this;exact this
 rw[<-h1];exact z6l x (by omega)
theorem yef{l:List UInt8}{m x:Nat}(h:numS l=x)(hm:x<=m)(_:m<=999):numI l m=(x,true):=by
 unfold numS at h;split at h
 ·rename_i n hn;split at h
  ·rename_i hc;have hnx:n=x:=by omega
   subst hnx;simp only[Bool.and_eq_true,decide_eq_true_eq,Bool.not_eq_true']at hc;unfold numI;rw[hn];have h9:¬9<l.length:=by omega
   rw[if_neg (by simp[hc.1.2,hc.2,h9])]
   simp only;rw[if_neg (by omega)]
  ·omega
 ·omega
end Go.Qz
namespace Go.Qz
open Go.Proofs
def zfp(l:List UInt8):Bool:=(numI l 999).2
def zfg(l:List UInt8):Bool:=decide ((zav 46 l).length<=4)&&(zav 46 l).all zfp
theorem z6m(l:List UInt8):zfp l=inI (numS l) 0 999:=by
 unfold zfp
 cases h:(numI l 999).2 with
 |true=>
  have h1:=yee (l:=l) (m:=999) (x:=(numI l 999).1) (by rw[<-h]) (by omega)
  have h2:=zwc h;rw[h1];unfold inI;rw[decide_eq_true (by omega),decide_eq_true (by omega)]
  rfl
 |false=>
  cases h2:inI (numS l) 0 999 with
  |false=>rfl
  |true=>
   unfold inI at h2;simp only[Bool.and_eq_true,decide_eq_true_eq]at h2;obtain⟨x,hx⟩:=Int.eq_ofNat_of_zero_le h2.1;rw[yef (m:=999) hx (by omega) (by omega)]at h
   cases h
def goV:Nat->zaz->Bool
 |_,[]=>true
 |k,x::r=>if zfp x then(if k=4 then false else goV (k+1) r)else false
theorem z8n:∀(xs:zaz) (k:Nat),k<=4->goV k xs=(decide (k+xs.length<=4)&&xs.all zfp)
 | [],k,h=>by simp[goV,h]
 |x::r,k,h=>by
  rw[goV]
  cases hx:zfp x with
  |false=>simp[hx]
  |true=>
   by_cases h4:k=4
   ·have:¬k+(r.length+1)<=4:=by omega
    subst h4;rw[if_pos rfl,if_pos rfl,decide_eq_false (by simp)]
    rfl
   ·rw[if_pos rfl,if_neg h4,z8n r (k+1) (by omega)]
    simp[hx,Nat.add_assoc,Nat.add_comm 1]
theorem z90(l:List UInt8):goV 0 (zav 46 l)=zfg l:=by
 rw[z8n _ _ (by omega)]
 simp[zfg]
abbrev IS(ns:List Nat):D:=.sl 1 (ns.map N)
def verN:List Nat->zaz->List Nat×Bool
 |acc,[]=>(acc,true)
 |acc,x::r=>if (numI x 999).2=false then([],false)else if acc.length=4 then([],false)else verN (acc++[(numI x 999).1]) r
theorem z3d:∀(xs:zaz) (acc:List Nat),(verN acc xs).2=goV acc.length xs
 | [],acc=>rfl
 |x::r,acc=>by
  rw[verN,goV];unfold zfp
  cases hx:(numI x 999).2 with
  |false=>simp
  |true=>
   by_cases h4:acc.length=4
   ·simp[h4]
   ·have:=z3d r (acc++[(numI x 999).1]);simp[h4,this]
def verL(l:List UInt8):List Nat:=(verN [] (zav 46 l)).1
theorem z91(l:List UInt8):verN [] (zav 46 l)=(verL l,zfg l):=by
 unfold verL;have h:=z3d (zav 46 l) [];rw[List.length_nil]at h;rw[<-z90,<-h]
theorem zot(l:List UInt8)(hl:l.length<=1048576):C yld [.ro (T l)] []=some (.tup [.own (IS (verL l)),.ro (.bool (zfg l))],[]):=by
 refine zaf Tryz.func146 ylg rfl ?_;have hs:=zv2 ⟨l.toArray⟩ ⟨#[46]⟩;have h46:(⟨#[46]⟩:ByteArray).size=1:=rfl;have hl2:l.length<=9223372036854775807:=by omega
 have hmem:=zfe 46 l;have hok:=z91 l;generalize verL l=ns at *;generalize zfg l=ok at *;simp[hs,h46,hl2];refine zn7 (λo ho=>?_)
 have o2:o.get 2=.one (.ptr 2 0):=by rw[ho];simp
 have o3:o.get 3=.one (.ptr 3 0):=by rw[ho];simp
 have o4:o.get 4=.one (.ptr 4 0):=by rw[ho];simp
 have os:o.size=28:=by rw[ho];simp
 have b2:o.box 2=some [.own (.sl 1 [])]:=by rw[ho];simp
 have b3:o.box 3=some [.ro (.bool false)]:=by rw[ho];simp
 have b4:o.box 4=some [.own (.sl 1 [])]:=by rw[ho];simp
 clear ho
 refine zn6 (λxs e=> ∃acc:List Nat,(∀x∈xs,x.length<=l.length)/\e.size=28/\e.get 2=.one (.ptr 9002 0)/\e.get 3=.one (.ptr 9003 0)/\e.get 4=.one (.ptr 9004 0)/\e.box 9002=some [.own (.sl 1 [])]/\e.box 9003=some [.ro (.bool false)]/\
  e.box 9004=some [.own (IS acc)]/\acc.length<=4/\verN acc xs=(ns,ok))
  ?_ _ _ ⟨[],hmem,by simp[os],by simp[o2],by simp[o3],by simp[o4],by simp[za1,b2],by simp[za1,b3],by simp[za1,b4],by simp,hok⟩
 rintro xs e ⟨acc,hx,es,e2,e3,e4,c2,c3,c4,hacc,hr⟩ ih
 cases xs with
 |nil=>
  rw[verN]at hr;cases hr;simp[o2,o3,o4,os,b2,b3,b4,c2,c3,c4,zdh]
 |cons x xs=>
  have hn:=z28 x 999 999 rfl (by have:=hx x (by simp);omega) (by omega)
  rw[verN]at hr;generalize numI x 999=v at *;obtain⟨n,b⟩:=v;simp only at hn hr
  cases b with
  |false=>
   simp only[if_true]at hr;cases hr;simp[o2,o3,b2,b3,es,e2,e3,e4,c2,c3,c4,hn,zdh,zbz,za1]
  |true=>
   simp only[Bool.true_eq_false,if_false]at hr;by_cases h4:acc.length=4
   ·rw[if_pos h4]at hr;cases hr;simp[o2,o3,b2,b3,es,e2,e3,e4,c2,c3,c4,hn,h4,zdh,zbz,za1]
   ·rw[if_neg h4]at hr;have hne:(acc.length==4)=false:=by rw[beq_eq_false_iff_ne];omega
    have ha:acc.length+1<=zad:=by simp[zad];omega
    simp[es,e4,c4,hn,hne,ha];refine ih _ _ (by simp) ⟨acc++[n],λy hy=>hx y (by simp[hy]),by simp[os],by simp[o2],by simp[o3],by simp[o4],by simp[zbz,za1,b2,c2],by simp[zbz,za1,b3,c3],by simp[zbz,za1,b4],by simp;omega,hr⟩
theorem zkm(l:List UInt8)(hl:l.length<=1048576):C Fn86 [.ro (T l)] []=some (.one (.ro (.bool (zfg l))),[]):=by
 refine zaf Tryz.func86 Cv86 rfl ?_;simp[zot l hl]
end Go.Qz
namespace Go.Qz
open Go.Proofs
theorem zzj(l:List UInt8)(hl:l.length<=1048576):∃is:List Int,C ymq [.ro (T l)] []=some (.tup [.own (.sl 1 (is.map I)),.ro (.bool (zfg l))],[]):=by
 have hcut:=zjn l 46 46 rfl hl;have hwl:IntKind.i64.wrap ((l.length:Int)+1)=((l.length+1:Nat):Int):=zae (by omega)
 have hcnt:=zff 46 l;have hmem:=zfe 46 l;have hv:zfg l=(decide ((zav 46 l).length<=4)&&(zav 46 l).all zfp):=rfl;generalize zav 46 l=xs at *
 have hfar:∃n,n<=xs.length/\(∀k (h:k<xs.length),k<n->zfp xs[k]=true)/\(∀h:n<xs.length,zfp xs[n]=false):=by
  clear hv hmem hcnt hcut
  induction xs with
  |nil=>exact⟨0,Nat.le_refl _,λk h=>by simp at h,λh=>by simp at h⟩
  |cons x r ih=>
   cases hx:zfp x with
   |false=>exact⟨0,Nat.zero_le _,λk h h2=>by omega,λh=>hx⟩
   |true=>
    obtain⟨n,h1,h2,h3⟩:=ih;refine⟨n+1,by simpa using h1,λk h hk=>?_,λh=>?_⟩
    ·cases k with
     |zero=>exact hx
     |succ k=>exact h2 k (by simpa using h) (by omega)
    ·exact h3 (by simpa using h)
 obtain⟨n,hn1,hn2,hn3⟩:=hfar
 obtain⟨pre,q0,q1,q2⟩:∃pre:Nat->List Int,pre 0=[]/\(∀i (h:i<xs.length),pre (i+1)=pre i++[numS xs[i]])/\ ∀i,i<=xs.length->(pre i).length=i:=
  ⟨λi=>(xs.take i).map numS,rfl,λi h=>by simp only[List.take_succ_eq_append_getElem h,List.map_append,List.map_cons,List.map_nil],λi h=>by simp only[List.length_map,List.length_take];omega⟩
 refine⟨pre n,?_⟩;refine zaf Tryz.func160 ymw rfl ?_;simp[hwl,hcut]
 refine zak (λm e=> ∃i,m=xs.length-i/\i<=n/\e.size=37/\e.get 4=.one (.own (SS xs))/\e.get 5=.one (.own (.sl 1 ((pre i).map I)))/\e.get 6=.one (.ro (N i)))
  ?_ xs.length _ ⟨0,rfl,Nat.zero_le _,by simp,by simp,by simp[q0],by simp⟩
 rintro m e ⟨i,rfl,hi,hsz,h4,h5,h6⟩ ih;rcases Nat.lt_or_ge i xs.length with hlt|hge
 ·have hwi:IntKind.i64.wrap ((i:Int)+1)=((i+1:Nat):Int):=zae (by omega)
  have hnum:=z6c xs[i] (by have:=hmem _ (List.getElem_mem hlt);omega)
  have hin:=zlk (numS xs[i]) 0 999;rw[<-z6m]at hin;rcases Nat.lt_or_ge i n with hin2|hin2
  ·have ht:=q1 i hlt;rw[hn2 i hlt hin2]at hin;generalize numS xs[i]=q at *;have hlen:=q2 i (by omega)
   have ha:(pre i).length+1<=zad:=by rw[hlen];simp[zad];omega
   simp[hsz,h4,h5,h6,hlt,hwi,hnum,hin,ha];exact ih _ _ (by omega) ⟨i+1,rfl,by omega,by simp[hsz],by simp[h4],by simp[ht],by simp⟩
  ·obtain rfl:i=n:=by omega
   have hbad:=hn3 hlt;rw[hbad]at hin
   have hvf:zfg l=false:=by
    rw[hv]
    have:xs.all zfp=false:=by
     rw[List.all_eq_false];exact⟨xs[i],List.getElem_mem hlt,by rw[hbad];simp⟩
    rw[this];simp
   simp[hsz,h4,h5,h6,hlt,hnum,hin,hvf]
 ·have hil:i=xs.length:=by omega
  subst hil;have hnx:n=xs.length:=by omega
  have hall:xs.all zfp=true:=by
   rw[List.all_eq_true];intro x hx;obtain⟨k,hk,rfl⟩:=List.mem_iff_getElem.1 hx;exact hn2 k hk (by omega)
  rw[hall,Bool.and_true]at hv;rw[hnx];simp[hsz,h4,h5,h6,hv]
theorem zkn(l:List UInt8)(hl:l.length<=1048576):C yi8 [.ro (T l)] []=some (.one (.ro (.bool (zfg l))),[]):=by
 refine zaf Tryz.func112 yi9 rfl ?_;obtain⟨is,h⟩:=zzj l hl;simp[h]
structure Ne where
 name:List UInt8
 kind:Int
 ver:List UInt8
abbrev NeD(e:Ne):D:=.agg [T e.name,I e.kind,T e.ver]
abbrev NeS(es:List Ne):D:=.sl 3 (es.map NeD)
def neSz(e:Ne):Prop:=e.name.length<=1048576/\e.ver.length<=1048576
def za7(e:Ne):Bool:=za2 e.name&&(if e.kind==0 then e.ver==[]else inI e.kind 1 3&&zfg e.ver)
theorem zev(e:Ne)(h:neSz e):C Fn90 [.ro (NeD e)] []=some (.one (.ro (.bool (za7 e))),[]):=by
 refine zaf Tryz.func90 Cv90 rfl ?_;have h1:=zdi e.name (by have:=h.1;omega)
 have h2:=zkm e.ver h.2;unfold za7
 cases hp:za2 e.name with
 |false=>rw[hp]at h1;simp[h1]
 |true=>
  rw[hp]at h1
  cases k0:e.kind==0 with
  |true=>simp[h1,k0]
  |false=>
   have k0':¬e.kind=0:=by simpa using k0
   cases k1:e.kind==1 with
   |true=>have:e.kind=1:=by simpa using k1
          simp[h1,h2,this,inI]
   |false=>
    have k1':¬e.kind=1:=by simpa using k1
    cases k2:e.kind==2 with
    |true=>have:e.kind=2:=by simpa using k2
           simp[h1,h2,this,inI]
    |false=>
     have k2':¬e.kind=2:=by simpa using k2
     cases k3:e.kind==3 with
     |true=>have:e.kind=3:=by simpa using k3
            simp[h1,h2,this,inI]
     |false=>
      have k3':¬e.kind=3:=by simpa using k3
      have hi:inI e.kind 1 3=false:=by
       unfold inI;simp only[Bool.and_eq_false_iff,decide_eq_false_iff_not];omega
      simp[h1,k0,k1,k2,k3,hi]
theorem zps(e:Ne)(h:neSz e):C ymx [.ro (NeD e)] []=some (.one (.ro (.bool (za7 e))),[]):=by
 refine zaf Tryz.func161 ymy rfl ?_;have h1:=zh2 e.name (by have:=h.1;omega)
 rw[zkk]at h1;have h2:=zkn e.ver h.2;have h3:=zlk e.kind 1 3;unfold za7
 cases hp:za2 e.name with
 |false=>rw[hp]at h1;simp[h1]
 |true=>
  rw[hp]at h1
  cases k0:e.kind==0 with
  |true=>
   have hk:e.kind=0:=by simpa using k0
   have hi:inI e.kind 1 3=false:=by rw[hk];rfl
   rw[hi]at h3;cases hv:e.ver==[]<;>simp[h1,k0,hv,h3]
  |false=>
   cases hi:inI e.kind 1 3 with
   |false=>rw[hi]at h3;simp[h1,k0,h3]
   |true=>rw[hi]at h3;simp[h1,k0,h3,h2]
end Go.Qz
namespace Go.Qz
open Go.Proofs
def LinesSm(xs:zaz)(n:Nat):Prop:=xs.length<=n/\ ∀x∈xs,x.length<=200
theorem LinesSm.more{xs:zaz}{n:Nat}(h:LinesSm xs n){x:List UInt8}(hx:x.length<=200):LinesSm (xs++[x]) (n+1):=
 ⟨by have:=h.1;simp;omega,λy hy=>(List.mem_append.1 hy).elim (h.2 y) (λh=>by simp at h;subst h;exact hx)⟩
def FlsSm(xs:List Fl)(n:Nat):Prop:=xs.length<=n/\ ∀x∈xs,x.1.length<=200/\x.2.length<=200
theorem FlsSm.more{xs:List Fl}{n:Nat}(h:FlsSm xs n){x:Fl}(hx:x.1.length<=200/\x.2.length<=200):FlsSm (xs++[x]) (n+1):=
 ⟨by have:=h.1;simp;omega,λy hy=>(List.mem_append.1 hy).elim (h.2 y) (λh=>by simp at h;subst h;exact hx)⟩
section
variable{bs:List Int}(hb:Seed bs){i:Nat}
include hb
theorem zjo(hi:i<=50000):∃(x:List UInt8) (j:Nat),x.length<=100/\j<=i+1/\C yks [.ptr 5000 0] [(5000,RB bs i)]=some (.one (.ro (T x)),[(5000,RB bs j)]):=by
 obtain⟨x,j,hx,hj,ho⟩:=zb0 hb (i:=i) (by omega) [[49],[49,46,48],[49,46,49],[49,46,50],[50],[48,46,57,46,57],[49,46,49,48],[57,57,57,46,57,57,57,46,57,57,57,46,57,57,57]] (by simp) (by simp)
 simp only[List.map_cons,List.map_nil]at ho;refine⟨x,j,?_,hj,zaf Tryz.func139 ykt rfl ?_⟩
 ·clear ho;revert x;decide
 ·simp[ho]
theorem zi1(hi:i<=40000):∃(x:List UInt8) (j:Nat),x.length<=100/\j<=i+2/\C Fn81 [.ptr 5000 0] [(5000,RB bs i)]=some (.one (.ro (T x)),[(5000,RB bs j)]):=by
 obtain⟨r,j1,hr,hj1,hp⟩:=zbk hb (i:=i) (by omega) 6 6 rfl (by omega) (by omega)
 by_cases h0:r=0
 ·subst h0;obtain⟨x,j,hx,hj,ho⟩:=zb0 hb (i:=j1) (by omega) [[],[46],[49,46],[48,49],[49,48,48,48],[49,46,50,46,51,46,52,46,53],[97],[49,46,45,49]] (by simp) (by simp)
  simp only[List.map_cons,List.map_nil]at ho;refine⟨x,j,?_,by omega,zaf Tryz.func81 Cv81 rfl ?_⟩
  ·clear ho;revert x;decide
  ·simp[hp,ho]
 ·obtain⟨x,j,hx,hj,ho⟩:=zjo hb (i:=j1) (by omega)
  have hr0:(r==0)=false:=by simpa using h0
  refine⟨x,j,hx,by omega,zaf Tryz.func81 Cv81 rfl ?_⟩
  simp[hp,ho,hr0]
theorem z6n(hi:i<=50000):∃(x:List UInt8) (j:Nat),x.length<=100/\j<=i+1/\C ylb [.ptr 5000 0] [(5000,RB bs i)]=some (.one (.ro (T x)),[(5000,RB bs j)]):=by
 obtain⟨x,j,hx,hj,ho⟩:=zb0 hb (i:=i) (by omega) [[97],[42],[42,42],[97,47,42],[97,47,42,42],[42,42,47,99],[108,105,98,47,42,46,99],[108,105,98,47,63],[91,97,98,93],[91,33,97,93,47,42],[98,42],[42,42,47,98,47,42,42],[42,47,42],[100,111,99,47,42,42],[120,42,121,42,122],[91,97,45,93]] (by simp) (by simp)
 simp only[List.map_cons,List.map_nil]at ho;refine⟨x,j,?_,hj,zaf Tryz.func145 ylc rfl ?_⟩
 ·clear ho;revert x;decide
 ·simp[ho]
theorem zwd(hi:i<=40000):∃(x:List UInt8) (j:Nat),x.length<=100/\j<=i+2/\C Fn84 [.ptr 5000 0] [(5000,RB bs i)]=some (.one (.ro (T x)),[(5000,RB bs j)]):=by
 obtain⟨r,j1,hr,hj1,hp⟩:=zbk hb (i:=i) (by omega) 6 6 rfl (by omega) (by omega)
 by_cases h0:r=0
 ·subst h0;obtain⟨t1,ht1,hm1⟩:=zqz [42] 41 41 rfl (by simp) (by omega)
  obtain⟨t2,ht2,hm2⟩:=zqz [42] 40 40 rfl (by simp) (by omega)
  obtain⟨x,j,hx,hj,ho⟩:=zb0 hb (i:=j1) (by omega) [[],[47],[97,47,47,98],[91],[91,93],[91,33,93],[91,97],[65],[97,47,98,47,99,47,100,47,101,47,102],t1,t2] (by simp) (by simp)
  simp only[List.map_cons,List.map_nil]at ho;refine⟨x,j,?_,by omega,zaf Tryz.func84 Cv84 rfl ?_⟩
  ·simp only[List.mem_cons,List.not_mem_nil,or_false]at hx;simp at ht1 ht2;rcases hx with rfl|rfl|rfl|rfl|rfl|rfl|rfl|rfl|rfl|rfl|rfl<;>first|omega|(simp)
  ·simp[hp,ho,hm1,hm2]
 ·obtain⟨x,j,hx,hj,ho⟩:=z6n hb (i:=j1) (by omega)
  have hr0:(r==0)=false:=by simpa using h0
  refine⟨x,j,hx,by omega,zaf Tryz.func84 Cv84 rfl ?_⟩
  simp[hp,ho,hr0]
def neSm(e:Ne):Prop:=e.name.length<=100/\e.ver.length<=100
theorem zmr(hi:i<=40000):∃(e:Ne) (j:Nat),neSm e/\j<=i+3/\C Fn83 [.ptr 5000 0] [(5000,RB bs i)]=some (.one (.ro (NeD e)),[(5000,RB bs j)]):=by
 obtain⟨x,j1,hx,hj1,c1⟩:=zb0 hb (i:=i) (by omega) [[111,110,101],[116,119,111],[116,104,114,101,101],[122,105,112]] (by simp) (by simp)
 simp only[List.map_cons,List.map_nil]at c1
 have hxl:x.length<=100:=by
  clear c1;revert x;decide
 obtain⟨k,j2,hk,hj2,c2⟩:=zbk hb (i:=j1) (by omega) 4 4 rfl (by omega) (by omega)
 by_cases h0:k=0
 ·subst h0;refine⟨⟨x,0,[]⟩,j2,⟨hxl,by simp⟩,by omega,zaf Tryz.func83 Cv83 rfl ?_⟩
  simp[c1,c2]
 ·obtain⟨v,j3,hv,hj3,c3⟩:=zjo hb (i:=j2) (by omega)
  have hk0:(k !=0)=true:=by simpa using h0
  refine⟨⟨x,k,v⟩,j3,⟨hxl,hv⟩,by omega,zaf Tryz.func83 Cv83 rfl ?_⟩
  simp[c1,c2,c3,h0]
theorem zwe(hi:i<=30000):∃(e:Ne) (j:Nat),neSm e/\j<=i+6/\C Fn82 [.ptr 5000 0] [(5000,RB bs i)]=some (.one (.ro (NeD e)),[(5000,RB bs j)]):=by
 obtain⟨e,j1,he,hj1,c1⟩:=zmr hb (i:=i) (by omega)
 obtain⟨r,j2,hr,hj2,c2⟩:=zbk hb (i:=j1) (by omega) 14 14 rfl (by omega) (by omega)
 by_cases r0:r=0
 ·subst r0;obtain⟨x,j3,hx,hj3,c3⟩:=zb0 hb (i:=j2) (by omega) [[],[57],[79,110,101],[101,108,101,118,101,110,108,101,116,116,101]] (by simp) (by simp)
  simp only[List.map_cons,List.map_nil]at c3
  have hxl:x.length<=100:=by
   clear c3;revert x;decide
  refine⟨{e with name:=x},j3,⟨hxl,he.2⟩,by omega,zaf Tryz.func82 Cv82 rfl ?_⟩
  simp[c1,c2,c3]
 ·by_cases r1:r=1
  ·subst r1;obtain⟨x,j3,hx,hj3,c3⟩:=zbk hb (i:=j2) (by omega) 6 6 rfl (by omega) (by omega)
   have w:IntKind.i64.wrap ((x:Int)-1)=(x:Int)-1:=wrap64 (by omega) (by omega)
   refine⟨{e with kind:=(x:Int)-1},j3,he,by omega,zaf Tryz.func82 Cv82 rfl ?_⟩
   simp[c1,c2,c3,w]
  ·by_cases r2:r=2
   ·subst r2;obtain⟨x,j3,hx,hj3,c3⟩:=zi1 hb (i:=j2) (by omega)
    refine⟨{e with ver:=x},j3,⟨he.1,hx⟩,by omega,zaf Tryz.func82 Cv82 rfl ?_⟩
    simp[c1,c2,c3]
   ·have b0:(r==0)=false:=by simpa using r0
    have b1:(r==1)=false:=by simpa using r1
    have b2:(r==2)=false:=by simpa using r2
    refine⟨e,j2,he,by omega,zaf Tryz.func82 Cv82 rfl ?_⟩
    simp[c1,c2,b0,b1,b2]
def z6o(bs:List Int)(k:Nat)(r:V×zar):Prop:=∃(xs:zaz) (j:Nat),LinesSm xs 6/\j<=k/\r=(.one (.own (SS xs)),[(5000,RB bs j)])
theorem z3e(hi:i<=30000):Ends (z6o bs (i+7)) (C yku [.ptr 5000 0] [(5000,RB bs i)]):=by
 refine zcu Tryz.func140 ykz rfl ?_;obtain⟨n,j1,hn,hj1,c1⟩:=zbk hb (i:=i) (by omega) 7 7 rfl (by omega) (by omega)
 simp[c1]
 refine zdz (λm e=> ∃(xs:zaz) (j:Nat),m<=6/\LinesSm xs (6-m)/\j+m<=i+7/\e.size=19/\e.get 0=.one (.ptr 5000 0)/\e.get 3=.one (.own (SS xs))/\e.get 4=.one (.ro (N m))/\e.box 5000=some (RB bs j))
  ?_ n _ ⟨[],j1,by omega,⟨by simp,by simp⟩,by omega,by simp,by simp,by simp,by simp,by simp⟩
 clear c1;rintro m e ⟨xs,j,hm,hxs,hj,hsz,h0,h3,h4,b5⟩ ih;rcases Nat.eq_zero_or_pos m with rfl|hp
 ·simp[hsz,h3,h4,b5];exact .of ⟨xs,j,hxs,by omega,rfl⟩
 ·have hwm:IntKind.i64.wrap ((m:Int)-1)=((m-1:Nat):Int):=by rw[wrap64 (by omega) (by omega)];omega
  obtain⟨x,j2,hx,hj2,c2⟩:=zb0 hb (i:=j) (by omega) [[109,107,100,105,114,32,97,32,55],[109,107,100,105,114,32,108,105,98,32,55],[109,107,100,105,114,32,100,111,99,32,55],[109,107,100,105,114,32,97,47,98,32,53],[99,111,112,121,32,108,105,98,47,120,46,99,32,115,114,99],[99,111,112,121,32,97,47,99,32,115,114,99],[119,114,105,116,101,32,100,111,99,47,121,32,52,32,116,101,120,116,32,111,102,32,105,116],[119,114,105,116,101,32,97,47,99,32,54,32,111,110,101],[108,105,110,107,32,98,32,97,47,99],[109,111,118,101,32,97,47,99,32,97,47,100],[100,114,111,112,32,97,47,99],[109,111,100,101,32,97,47,99,32,49],[115,119,97,112,32,97,47,99,32,111,110,101,32,116,119,111],[112,97,116,99,104,32,108,105,98,47,120,46,99,32,102,105,120],[119,114,105,116,101,32,98,32,52,32,98],[109,107,100,105,114,32,36,123,100,105,114,125,32,55]] (by simp) (by simp)
  simp only[List.map_cons,List.map_nil]at c2
  have hxl:x.length<=200:=by
   clear c2;revert x;decide
  have hap:xs.length+1<=zad:=by have:=hxs.1;simp[zad];omega
  simp[hsz,h0,h3,h4,b5,hp,c2,hwm,hap];have hmore:=hxs.more hxl;rw[show 6-m+1=6-(m-1) by omega]at hmore
  exact ih (m-1) _ (by omega) ⟨xs++[x],j2,by omega,hmore,by omega,by simp[hsz],by simp[h0],by simp,by simp,by simp⟩
def LetsOut(bs:List Int)(k:Nat)(r:V×zar):Prop:=∃(xs:List Fl) (j:Nat),FlsSm xs 2/\j<=k/\r=(.one (.own (FS xs)),[(5000,RB bs j)])
theorem z6p(hi:i<=30000):∃(xs:List Fl) (j:Nat),FlsSm xs 2/\j<=i+4/\C ydt [.ptr 5000 0] [(5000,RB bs i)]=some (.one (.own (FS xs)),[(5000,RB bs j)]):=by
 obtain⟨n1,j1,hn1,hj1,c1⟩:=zbk hb (i:=i) (by omega) 2 2 rfl (by omega) (by omega)
 have second:∀(e:Env) (xs:List Fl) (j:Nat),FlsSm xs 1->j<=i+2->e.size=27->e.get 0=.one (.ptr 5000 0)->e.get 3=.one (.own (FS xs))->e.box 5000=some (RB bs j)->
  Ends (LetsOut bs (i+4)) (Run cx q141c1 e [.fn [(.tmp 2,23)] [(5000,RB bs i)]]):=by
  intro e xs j hxs hj hsz h0 h3 b5;obtain⟨n2,j2,hn2,hj2,c2⟩:=zbk hb (i:=j) (by omega) 2 2 rfl (by omega) (by omega)
  by_cases z2:n2=0
  ·subst z2;obtain⟨t1,ht1,hm1⟩:=zqz [108] 80 80 rfl (by simp) (by omega)
   obtain⟨x,j3,hx,hj3,c3⟩:=zb0 hb (i:=j2) (by omega) [[100,111,99],[108,105,98,47,36,123,110,97,109,101,125],[36,123,100,105,114,125],[120],t1] (by simp) (by simp)
   simp only[List.map_cons,List.map_nil]at c3
   have hxl:x.length<=200:=by
    simp only[List.mem_cons,List.not_mem_nil,or_false]at hx;simp at ht1;rcases hx with rfl|rfl|rfl|rfl|rfl<;>first|omega|(simp)
   have hap:xs.length+1<=zad:=by have:=hxs.1;simp[zad];omega
   simp[hsz,h0,h3,b5,c2,c3,hm1,hap];exact .of ⟨xs++[([98,97,115,101],x)],j3,hxs.more ⟨by simp,hxl⟩,by omega,by simp⟩
  ·have b0:(n2==0)=false:=by simpa using z2
   simp[hsz,h0,h3,b5,c2,b0];exact .of ⟨xs,j2,⟨by have:=hxs.1;omega,hxs.2⟩,by omega,by simp⟩
 have h:Ends (LetsOut bs (i+4)) (C ydt [.ptr 5000 0] [(5000,RB bs i)]):=by
  refine zcu Tryz.func141 yk1 rfl ?_;by_cases z1:n1=0
  ·subst z1;obtain⟨x,j2,hx,hj2,c2⟩:=zb0 hb (i:=j1) (by omega) [[108,105,98],[97],[36,123,98,97,115,101,125],[36,123,110,97,109,101,125]] (by simp) (by simp)
   simp only[List.map_cons,List.map_nil]at c2
   have hxl:x.length<=200:=by
    clear c2;revert x;decide
   simp[c1,c2,-z2i];exact second _ [([100,105,114],x)] j2 ⟨by simp,by simp;exact hxl⟩ (by omega) (by simp) (by simp) (by simp) (by simp)
  ·have b0:(n1==0)=false:=by simpa using z1
   simp[c1,b0,-z2i];exact second _ [] j1 ⟨by simp,by simp⟩ (by omega) (by simp) (by simp) (by simp) (by simp)
 obtain⟨_,⟨xs,j,h1,h2,rfl⟩,h3⟩:=h;exact⟨xs,j,h1,h2,h3⟩
end
end Go.Qz
namespace Go.Qz
open Go.Proofs
def isK(k:IntKind):D->Bool
 | .int k' _=>k' ==k
 |_=>false
def IsI(kd:IntKind)(n:Nat):V->Prop
 | .one (.own (.sl z xs))=>z=1/\xs.length=n/\xs.all (isK kd)=true
 |_=>False
abbrev US(xs:List Int):D:=.sl 1 (xs.map (D.int .u32))
theorem z3f{kd:IntKind}:∀{xs:List D},(∀x∈xs,isK kd x=true)-> ∃ns:List Int,xs=ns.map (D.int kd)
 | [],_=>⟨[],rfl⟩
 |x::r,h=>by
  obtain⟨ns,hn⟩:=z3f (xs:=r) (λy hy=>h y (by simp[hy]))
  have hx:=h x (by simp)
  cases x with
  |int k n=>
   simp only[isK,beq_iff_eq]at hx;subst hx;exact⟨n::ns,by rw[hn];rfl⟩
  |_=>cases hx
theorem IsI.out{kd:IntKind}{n:Nat}{v:V}(h:IsI kd n v):∃ns:List Int,ns.length=n/\v=.one (.own (.sl 1 (ns.map (D.int kd)))):=by
 unfold IsI at h;split at h
 ·rename_i z xs;obtain⟨rfl,h1,h2⟩:=h;obtain⟨ns,rfl⟩:=z3f (List.all_eq_true.1 h2);exact⟨ns,by simpa using h1,rfl⟩
 ·exact h.elim
@[simp] theorem yqh(kd:IntKind)(ns:List Int):ns.all (isK kd∘D.int kd)=true:=by
  rw[List.all_eq_true];intro x _;simp[isK]
@[simp] theorem ygh(kd:IntKind)(ns:List Int)(q:Nat)(x:Int):((ns.map (D.int kd)).set q (.int kd x)).all (isK kd)=true:=by
  have:(ns.map (D.int kd)).set q (.int kd x)=(ns.set q x).map (D.int kd):=List.map_set.symm;rw[this,List.all_map];exact yqh kd _
@[simp] theorem yqi(kd:IntKind)(ns:List Int):flats (ns.map (D.int kd))=true:=by
  induction ns with
  |nil=>rfl
  |cons a r ih=>simp[flats,D.flat,ih]
theorem zq1:∀ns:List Int,zls (ns.map (D.int .u8))=some (ns.map λn=>n.toNat.toUInt8)
 | []=>rfl
 |n::r=>by simp[zls,zq1 r]
def IsN(kd:IntKind):V->Prop
 | .one (.ro (.int k _))=>k=kd
 |_=>False
theorem IsN.out{kd:IntKind}{v:V}(h:IsN kd v):∃n:Int,v=.one (.ro (.int kd n)):=by
 unfold IsN at h;split at h
 ·subst h;exact⟨_,rfl⟩
 ·exact h.elim
theorem zcy(x n:Int)(h0:0<=n)(h1:n<=32):∃y:Int,C yd5 [.ro (.int .u32 x),.ro (I n)] []=some (.one (.ro (.int .u32 y)),[]):=by
 have h:Ends (λr=> ∃v,IsN .u32 v/\r=(v,[])) (C yd5 [.ro (.int .u32 x),.ro (I n)] []):=by
  refine zcu Tryz.func213 yp3 rfl ?_;have w1:IntKind.i64.wrap (32-n)=32-n:=wrap64 (by omega) (by omega)
  have n1:¬n<0:=by omega
  have n2:¬32-n<0:=by omega
  have n3:¬(32:Int)<n:=by omega
  simp[w1,n1,n2,n3];exact .of ⟨_,by simp[IsN],rfl⟩
 obtain⟨_,⟨v,hv,rfl⟩,h2⟩:=h;obtain⟨y,rfl⟩:=hv.out;exact⟨y,h2⟩
theorem zwf:∃ns:List Int,ns.length=64/\C yd4 [] []=some (.one (.own (US ns)),[]):=by
 have h:Ends (λr=> ∃v,IsI .u32 64 v/\r=(v,[])) (C yd4 [] []):=by
  refine zcu Tryz.func212 yp2 rfl ?_;simp;exact .of ⟨_,by simp[IsI,isK],rfl⟩
 obtain⟨_,⟨v,hv,rfl⟩,h2⟩:=h;obtain⟨ns,h3,rfl⟩:=hv.out;exact⟨ns,h3,h2⟩
set_option maxHeartbeats 4000000 in
theorem zzk(bs:List Int)(hb:bs.length=64):∃ns:List Int,ns.length=64/\C yd3 [.ro (.sl 1 (bs.map (D.int .u8)))] []=some (.one (.own (US ns)),[]):=by
 have h:Ends (λr=> ∃v,IsI .u32 64 v/\r=(v,[])) (C yd3 [.ro (.sl 1 (bs.map (D.int .u8)))] []):=by
  refine zcu Tryz.func211 yp1 rfl ?_
  have go:∀e:Env,e.size=100->IsI .u32 16 (e.get 3)->Ends (λr=> ∃v,IsI .u32 64 v/\r=(v,[])) (Run cx q211c5 e [.fn [(.tmp 2,207)] []]):=by
   intro e hsz h3;obtain⟨ws,hws,e3⟩:=h3.out;simp[hsz];refine zdz (λm e=> ∃i,m=64-i/\16<=i/\i<=64/\e.size=100/\IsI .u32 i (e.get 3)/\e.get 5=.one (.ro (N i))) ?_ 48 _ ⟨16,rfl,by omega,by omega,by simp[hsz],by simp[e3,IsI,isK,hws],by simp⟩
   clear hsz e3 hws;rintro m e ⟨i,rfl,hi,hi2,hsz,h3,e5⟩ ih;obtain⟨ws,hws,e3⟩:=h3.out;clear h3;by_cases hlt:i<64
   ·have hlt':(i:Int)<64:=by omega
    have hwi:IntKind.i64.wrap ((i:Int)+1)=((i+1:Nat):Int):=zae (by omega)
    obtain⟨a,ha⟩:∃a,i-15=a:=⟨_,rfl⟩;obtain⟨b,hb2⟩:∃b,i-2=b:=⟨_,rfl⟩;obtain⟨c,hc⟩:∃c,i-16=c:=⟨_,rfl⟩;obtain⟨d,hd⟩:∃d,i-7=d:=⟨_,rfl⟩;have wa:IntKind.i64.wrap ((i:Int)-15)=(a:Int):=by rw[wrap64 (by omega) (by omega)];omega
    have wb:IntKind.i64.wrap ((i:Int)-2)=(b:Int):=by rw[wrap64 (by omega) (by omega)];omega
    have wc:IntKind.i64.wrap ((i:Int)-16)=(c:Int):=by rw[wrap64 (by omega) (by omega)];omega
    have wd:IntKind.i64.wrap ((i:Int)-7)=(d:Int):=by rw[wrap64 (by omega) (by omega)];omega
    have la:a<ws.length:=by omega
    have lb:b<ws.length:=by omega
    have lc:c<ws.length:=by omega
    have ld:d<ws.length:=by omega
    obtain⟨y1,t1⟩:=zcy ws[a] 7 (by omega) (by omega)
    obtain⟨y2,t2⟩:=zcy ws[a] 18 (by omega) (by omega)
    obtain⟨y3,t3⟩:=zcy ws[b] 17 (by omega) (by omega)
    obtain⟨y4,t4⟩:=zcy ws[b] 19 (by omega) (by omega)
    have hap:ws.length+1<=zad:=by simp[zad];omega
    simp[hsz,e3,e5,hlt',hlt,hwi,wa,wb,wc,wd,la,lb,lc,ld,t1,t2,t3,t4,hap];exact ih _ _ (by omega) ⟨i+1,rfl,by omega,by omega,by simp[hsz],by simp[IsI,isK,hws],by simp⟩
   ·obtain rfl:i=64:=by omega
    simp[hsz,e3,e5];exact .of ⟨_,by simp[IsI,isK,hws],rfl⟩
  have hA:(64:Int)<=zad:=by decide
  simp[hA,-z2l];refine zdz (λm e=> ∃i,m=16-i/\i<=16/\e.size=100/\e.get 0=.one (.ro (.sl 1 (bs.map (D.int .u8))))/\IsI .u32 i (e.get 3)/\e.get 4=.one (.ro (N i))) ?_ 16 _ ⟨0,rfl,by omega,by simp,by simp,by simp[IsI],by simp⟩
  rintro m e ⟨i,rfl,hi,hsz,e0,h3,e4⟩ ih;obtain⟨ws,hws,e3⟩:=h3.out;by_cases hlt:i<16
  ·have hlt':(i:Int)<16:=by omega
   have hwi:IntKind.i64.wrap ((i:Int)+1)=((i+1:Nat):Int):=zae (by omega)
   obtain⟨j,hj⟩:∃j,4*i=j:=⟨_,rfl⟩;obtain⟨j1,hj1⟩:∃q,j+1=q:=⟨_,rfl⟩;obtain⟨j2,hj2⟩:∃q,j+2=q:=⟨_,rfl⟩;obtain⟨j3,hj3⟩:∃q,j+3=q:=⟨_,rfl⟩;have wj:IntKind.i64.wrap (4*(i:Int))=(j:Int):=by rw[wrap64 (by omega) (by omega)];omega
   have w1:IntKind.i64.wrap ((j:Int)+1)=(j1:Int):=by rw[wrap64 (by omega) (by omega)];omega
   have w2:IntKind.i64.wrap ((j:Int)+2)=(j2:Int):=by rw[wrap64 (by omega) (by omega)];omega
   have w3:IntKind.i64.wrap ((j:Int)+3)=(j3:Int):=by rw[wrap64 (by omega) (by omega)];omega
   have l0:j<bs.length:=by omega
   have l1:j1<bs.length:=by omega
   have l2:j2<bs.length:=by omega
   have l3:j3<bs.length:=by omega
   have hap:ws.length+1<=zad:=by simp[zad];omega
   simp[hsz,e0,e3,e4,hlt',hlt,hwi,wj,w1,w2,w3,l0,l1,l2,l3,hap];exact ih _ _ (by omega) ⟨i+1,rfl,by omega,by simp[hsz],by simp[e0],by simp[IsI,isK,hws],by simp⟩
  ·obtain rfl:i=16:=by omega
   simp[hsz,e4,-z2l];exact go _ (by simp[hsz]) (by simp[e3,IsI,isK,hws])
 obtain⟨_,⟨v,hv,rfl⟩,h2⟩:=h;obtain⟨ns,h3,rfl⟩:=hv.out;exact⟨ns,h3,h2⟩
end Go.Qz
namespace Go.Qz
open Go.Proofs
set_option maxHeartbeats 8000000 in
theorem zzl(hs:List Int)(hh:hs.length=8)(bs:List Int)(hb:bs.length=64):∃ns:List Int,ns.length=8/\C yd2 [.ro (US hs),.ro (.sl 1 (bs.map (D.int .u8)))] []=some (.one (.own (US ns)),[]):=by
 have h:Ends (λr=> ∃v,IsI .u32 8 v/\r=(v,[])) (C yd2 [.ro (US hs),.ro (.sl 1 (bs.map (D.int .u8)))] []):=by
  refine zcu Tryz.func194 ypf rfl ?_;obtain⟨ws,hws,cw⟩:=zzk bs hb;obtain⟨ks,hks,ck⟩:=zwf;have hap:hs.length<=zad:=by simp[zad];omega
  have go:∀e:Env,e.size=155->e.get 0=.one (.ro (US hs))->IsI .u32 8 (e.get 7)->Ends (λr=> ∃v,IsI .u32 8 v/\r=(v,[])) (Run cx q194c8 e [.fn [(.tmp 4,207)] []]):=by
   intro e hsz e0 h7;obtain⟨ss,hss,e7⟩:=h7.out;simp[hsz];refine zdz (λm e=> ∃i,m=8-i/\i<=8/\e.size=155/\e.get 0=.one (.ro (US hs))/\e.get 7=.one (.own (US ss))/\IsI .u32 i (e.get 15)/\e.get 16=.one (.ro (N i))) ?_ 8 _ ⟨0,rfl,by omega,by simp[hsz],by simp[e0],by simp[e7],by simp[IsI],by simp⟩
   clear hsz e0 e7 h7;rintro m e ⟨i,rfl,hi,hsz,e0,e7,h15,e16⟩ ih;obtain⟨os,hos,e15⟩:=h15.out;by_cases hlt:i<8
   ·have hlt':(i:Int)<8:=by omega
    have hwi:IntKind.i64.wrap ((i:Int)+1)=((i+1:Nat):Int):=zae (by omega)
    have l1:i<hs.length:=by omega
    have l2:i<ss.length:=by omega
    have hap2:os.length+1<=zad:=by simp[zad];omega
    simp[hsz,e0,e7,e15,e16,hlt',hlt,hwi,l1,l2,hap2];exact ih _ _ (by omega) ⟨i+1,rfl,by omega,by simp[hsz],by simp[e0],by simp[e7],by simp[IsI,isK,hos],by simp⟩
   ·obtain rfl:i=8:=by omega
    simp[hsz,e15,e16];exact .of ⟨_,by simp[IsI,isK,hos],rfl⟩
  simp[cw,ck,hap,-z2k]
  refine zdz (λm e=> ∃i,m=64-i/\i<=64/\e.size=155/\e.get 0=.one (.ro (US hs))/\e.get 5=.one (.own (US ws))/\e.get 6=.one (.own (US ks))/\IsI .u32 8 (e.get 7)/\e.get 8=.one (.ro (N i))) ?_ 64 _
   ⟨0,rfl,by omega,by simp,by simp,by simp,by simp,by simp[IsI,isK,hh],by simp⟩
  clear cw ck hap;rintro m e ⟨i,rfl,hi,hsz,e0,e5,e6,h7,e8⟩ ih;obtain⟨ss,hss,e7⟩:=h7.out;clear h7;by_cases hlt:i<64
  ·have hlt':(i:Int)<64:=by omega
   have hwi:IntKind.i64.wrap ((i:Int)+1)=((i+1:Nat):Int):=zae (by omega)
   have l5:i<ws.length:=by omega
   have l6:i<ks.length:=by omega
   obtain⟨s0,s1,s2,s3,s4,s5,s6,s7,rfl⟩:∃s0 s1 s2 s3 s4 s5 s6 s7,ss=[s0,s1,s2,s3,s4,s5,s6,s7]:=by
    match ss,hss with
    | [s0,s1,s2,s3,s4,s5,s6,s7],_=>exact⟨_,_,_,_,_,_,_,_,rfl⟩
   obtain⟨y1,t1⟩:=zcy s4 6 (by omega) (by omega)
   obtain⟨y2,t2⟩:=zcy s4 11 (by omega) (by omega)
   obtain⟨y3,t3⟩:=zcy s4 25 (by omega) (by omega)
   obtain⟨y4,t4⟩:=zcy s0 2 (by omega) (by omega)
   obtain⟨y5,t5⟩:=zcy s0 13 (by omega) (by omega)
   obtain⟨y6,t6⟩:=zcy s0 22 (by omega) (by omega)
   have last:∀e:Env,e.size=155->e.get 0=.one (.ro (US hs))->e.get 5=.one (.own (US ws))->e.get 6=.one (.own (US ks))->IsI .u32 8 (e.get 7)->e.get 8=.one (.ro (N i))->IsN .u32 (e.get 11)->IsN .u32 (e.get 12)->IsN .u32 (e.get 13)->
    Ends (λr=> ∃v,IsI .u32 8 v/\r=(v,[])) (Run cx q194c2 e [.blk 1,.seq q194c3,.loop q194l1,.blk 0,.seq q194c8,.fn [(.tmp 4,207)] []]):=by
    intro e hsz e0 e5 e6 h7 e8 h11 h12 h13;obtain⟨ss,hss,e7⟩:=h7.out;obtain⟨x1,e11⟩:=h11.out;obtain⟨x2,e12⟩:=h12.out;obtain⟨x3,e13⟩:=h13.out
    obtain⟨s0,s1,s2,s3,s4,s5,s6,s7,rfl⟩:∃s0 s1 s2 s3 s4 s5 s6 s7,ss=[s0,s1,s2,s3,s4,s5,s6,s7]:=by
     match ss,hss with
     | [s0,s1,s2,s3,s4,s5,s6,s7],_=>exact⟨_,_,_,_,_,_,_,_,rfl⟩
    simp[hsz,e7,e8,e11,e12,e13,hwi];exact ih _ _ (by omega) ⟨i+1,rfl,by omega,by simp[hsz],by simp[e0],by simp[e5],by simp[e6],by simp[IsI,isK],by simp⟩
   have mid:∀(m:Nat) (e:Env),m<=7->e.size=155->e.get 0=.one (.ro (US hs))->e.get 5=.one (.own (US ws))->e.get 6=.one (.own (US ks))->IsI .u32 8 (e.get 7)->e.get 8=.one (.ro (N i))->IsN .u32 (e.get 11)->IsN .u32 (e.get 12)->IsN .u32 (e.get 13)->e.get 14=.one (.ro (N m))->
    Ends (λr=> ∃v,IsI .u32 8 v/\r=(v,[])) (Run cx (.loop q194l0) e [.blk 2,.seq q194c2,.blk 1,.seq q194c3,.loop q194l1,.blk 0,.seq q194c8,.fn [(.tmp 4,207)] []]):=by
    intro m e hm hsz e0 e5 e6 h7 e8 h11 h12 h13 e14;refine zdz (λm e=>m<=7/\e.size=155/\e.get 0=.one (.ro (US hs))/\e.get 5=.one (.own (US ws))/\e.get 6=.one (.own (US ks))/\IsI .u32 8 (e.get 7)/\e.get 8=.one (.ro (N i))/\IsN .u32 (e.get 11)/\IsN .u32 (e.get 12)/\IsN .u32 (e.get 13)/\e.get 14=.one (.ro (N m))) ?_ m _ ⟨hm,hsz,e0,e5,e6,h7,e8,h11,h12,h13,e14⟩
    clear hsz e0 e5 e6 h7 e8 h11 h12 h13 e14;rintro m e ⟨hm,hsz,e0,e5,e6,h7,e8,h11,h12,h13,e14⟩ ih2;obtain⟨ss,hss,e7⟩:=h7.out;obtain⟨x1,e11⟩:=h11.out;obtain⟨x2,e12⟩:=h12.out;obtain⟨x3,e13⟩:=h13.out;rcases Nat.eq_zero_or_pos m with rfl|hp
    ·simp[hsz,e14,-z2j];exact last _ (by simp[hsz]) (by simp[e0]) (by simp[e5]) (by simp[e6]) (by simp[e7,IsI,hss]) (by simp[e8]) (by simp[e11,IsN]) (by simp[e12,IsN]) (by simp[e13,IsN])
    ·obtain⟨k,rfl⟩:∃k,m=k+1:=⟨m-1,by omega⟩
     obtain⟨q,hq⟩:∃q,k+1=q:=⟨_,rfl⟩;have wq:IntKind.i64.wrap ((q:Int)-1)=(k:Int):=by rw[wrap64 (by omega) (by omega)];omega
     have lk:k<ss.length:=by omega
     have lq:q<ss.length:=by omega
     have q0:0<q:=by omega
     rw[hq]at e14 ih2;simp[hsz,e7,e14,wq,lk,lq,q0];exact ih2 k _ (by omega) ⟨by omega,by simp[hsz],by simp[e0],by simp[e5],by simp[e6],by simp[IsI,hss],by simp[e8],by simp[e11,IsN],by simp[e12,IsN],by simp[e13,IsN],by simp⟩
   simp[hsz,e5,e6,e7,e8,hlt',hlt,l5,l6,t1,t2,t3,t4,t5,t6,-z2j];exact mid 7 _ (by omega) (by simp[hsz]) (by simp[e0]) (by simp[e5]) (by simp[e6]) (by simp[e7,IsI,isK]) (by simp[e8]) (by simp[IsN]) (by simp[IsN]) (by simp[IsN]) (by simp)
  ·obtain rfl:i=64:=by omega
   simp[hsz,e8,-z2k];exact go _ (by simp[hsz]) (by simp[e0]) (by simp[e7,IsI,isK,hss])
 obtain⟨_,⟨v,hv,rfl⟩,h2⟩:=h;obtain⟨ns,h3,rfl⟩:=hv.out;exact⟨ns,h3,h2⟩
end Go.Qz
namespace Go.Qz
open Go.Proofs
theorem zwg(l:List UInt8)(hl:l.length<=1000):∃ns:List Int,∃k,ns.length=64*k/\k<=20/\C yd1 [.ro (T l)] []=some (.one (.own (.sl 1 (ns.map (D.int .u8)))),[]):=by
 have h:Ends (λr=> ∃v,(∃k,k<=20/\IsI .u8 (64*k) v)/\r=(v,[])) (C yd1 [.ro (T l)] []):=by
  refine zcu Tryz.func193 yo4 rfl ?_;have hms:l.length<=zai:=by simp[zai];omega
  have hap:l.length+1<=zad:=by simp[zad];omega
  have hdb:zbg ⟨l.toArray⟩=(l.map λb=>(b.toNat:Int)).map (D.int .u8):=by simp[zbg]
  have hdl:(l.map λb=>(b.toNat:Int)).length=l.length:=by simp
  have go:∀(k:Nat) (e:Env),k<=19->e.size=33->e.get 0=.one (.ro (T l))->IsI .u8 (64*k+56) (e.get 3)->Ends (λr=> ∃v,(∃k,k<=20/\IsI .u8 (64*k) v)/\r=(v,[])) (Run cx q193c4 e [.fn [(.tmp 2,22)] []]):=by
   intro k e hk hsz e0 h3;obtain⟨ns,hns,e3⟩:=h3.out;clear h3;obtain⟨q,hq⟩:∃q:Int,IntKind.i64.wrap ((l.length:Int)*8)=q:=⟨_,rfl⟩;simp[hsz,e0,hq];refine zdz (λm e=>m<=8/\e.size=33/\IsI .u8 (64*k+64-m) (e.get 3)/\e.get 4=.one (.ro (I q))/\e.get 5=.one (.ro (I ((m:Int)-1)))) ?_ 8 _ ⟨by omega,by simp[hsz],by simp[e3,IsI,isK,hns],by simp,by simp⟩
   clear hsz e0 e3 hns;rintro m e ⟨hm,hsz,h3,e4,e5⟩ ih;obtain⟨ns,hns,e3⟩:=h3.out;clear h3;rcases Nat.eq_zero_or_pos m with rfl|hp
   ·have hneg:¬(0:Int)<= -1:=by omega
    simp[hsz,e3,e5];exact .of ⟨_,⟨k+1,by omega,by simp[IsI,isK,hns];omega⟩,rfl⟩
   ·obtain⟨j,rfl⟩:∃j,m=j+1:=⟨m-1,by omega⟩
    have ej:((j+1:Nat):Int)-1=(j:Int):=by omega
    rw[ej]at e5;have w8:IntKind.i64.wrap (8*(j:Int))=8*(j:Int):=wrap64 (by omega) (by omega)
    have w9:IntKind.i64.wrap ((j:Int)-1)=(j:Int)-1:=wrap64 (by omega) (by omega)
    have n1:¬8*(j:Int)<0:=by omega
    have hap2:ns.length+1<=zad:=by simp[zad];omega
    simp[hsz,e3,e4,e5,w8,w9,n1,hap2];exact ih j _ (by omega) ⟨by omega,by simp[hsz],by simp[IsI,isK,hns];omega,by simp[e4],by simp⟩
  simp[hms,hap,hdb]
  refine zdz (λm e=> ∃i,i<=1300/\m=1300-i/\(∃z,z<=18/\i<=64*z+56)/\e.size=33/\e.get 0=.one (.ro (T l))/\IsI .u8 i (e.get 3)) ?_ (1300-(l.length+1)) _
   ⟨l.length+1,by omega,rfl,⟨18,by omega,by omega⟩,by simp,by simp,by simp[IsI,isK]⟩
  rintro m e ⟨i,hi,rfl,⟨z,hz,hiz⟩,hsz,e0,h3⟩ ih;obtain⟨ns,hns,e3⟩:=h3.out;clear h3;have hr:((i:Int)).tmod 64=((i % 64:Nat):Int):=by rw[Int.ofNat_tmod];rfl
  by_cases h56:i % 64=56
  ·have h56':((i % 64:Nat):Int)=56:=by omega
   obtain⟨k,hk⟩:∃k,i=64*k+56:=⟨i/64,by omega⟩
   rw[h56']at hr;simp[hsz,e3,hns,hr,-z9w];exact go k _ (by omega) (by simp[hsz]) (by simp[e0]) (by simp[e3,IsI,isK,hns,hk])
  ·have hne:(((i % 64:Nat):Int)==56)=false:=by rw[beq_eq_false_iff_ne];omega
   have hne2:¬i % 64=56:=h56;have hap2:i+1<=zad:=by simp[zad];omega
   obtain⟨q,hq⟩:∃q,i % 64=q:=⟨_,rfl⟩;rw[hq]at hr hne hne2;have hne3:(q==56)=false:=by simpa using hne2
   simp[hsz,e3,hns,hr,hne,hne2,hne3,hap2];exact ih _ _ (by omega) ⟨i+1,by omega,rfl,⟨z,hz,by omega⟩,by simp[hsz],by simp[e0],by simp[IsI,isK,hns]⟩
 obtain⟨_,⟨v,⟨k,hk,hv⟩,rfl⟩,h2⟩:=h;obtain⟨ns,h3,rfl⟩:=hv.out;exact⟨ns,k,h3,hk,h2⟩
theorem z6q(l:List UInt8)(hl:l.length<=1000):∃s:List UInt8,s.length=32/\C ydy [.ro (T l)] []=some (.one (.ro (T s)),[]):=by
 have h:Ends (λr=> ∃s:List UInt8,s.length=32/\r=(.one (.ro (T s)),[])) (C ydy [.ro (T l)] []):=by
  refine zcu Tryz.func173 yng rfl ?_;obtain⟨bs,k,hbs,hk,hp⟩:=zwg l hl
  have go:∀e:Env,e.size=57->IsI .u32 8 (e.get 3)->Ends (λr=> ∃s:List UInt8,s.length=32/\r=(.one (.ro (T s)),[])) (Run cx q173c5 e [.fn [(.tmp 2,9)] []]):=by
   intro e hsz h3;obtain⟨hs,hhs,e3⟩:=h3.out;clear h3;simp[hsz];refine zdz (λm e=> ∃i,m=8-i/\i<=8/\e.size=57/\e.get 3=.one (.own (US hs))/\IsI .u8 (4*i) (e.get 6)/\e.get 7=.one (.ro (N i))) ?_ 8 _ ⟨0,rfl,by omega,by simp[hsz],by simp[e3],by simp[IsI],by simp⟩
   clear hsz e3;rintro m e ⟨i,rfl,hi,hsz,e3,h6,e7⟩ ih;obtain⟨os,hos,e6⟩:=h6.out;clear h6;by_cases hlt:i<8
   ·have hlt':(i:Int)<8:=by omega
    have hwi:IntKind.i64.wrap ((i:Int)+1)=((i+1:Nat):Int):=zae (by omega)
    have l1:i<hs.length:=by omega
    have hap:os.length+4<=zad:=by simp[zad];omega
    simp[hsz,e3,e6,e7,hlt',hlt,hwi,l1,hap];exact ih _ _ (by omega) ⟨i+1,rfl,by omega,by simp[hsz],by simp[e3],by simp[IsI,isK,hos];omega,by simp⟩
   ·obtain rfl:i=8:=by omega
    simp[hsz,e6,e7,zq1];exact .of ⟨_,by simpa using hos,rfl⟩
  simp[hp,-zvr];refine zdz (λm e=> ∃i,m=k-i/\i<=k/\e.size=57/\IsI .u32 8 (e.get 3)/\(e.get 4=.one (.own (.sl 1 (bs.map (D.int .u8))))∨e.get 4=.one (.ro (.sl 1 (bs.map (D.int .u8)))))/\ ∃j,j=64*i/\e.get 5=.one (.ro (N j))) ?_ k _ ⟨0,rfl,by omega,by simp,by simp[IsI,isK],.inl (by simp),0,rfl,by simp⟩
  clear hp;rintro m e ⟨i,rfl,hi,hsz,h3,e4,j,hj,e5⟩ ih;obtain⟨hs,hhs,e3⟩:=h3.out;clear h3;by_cases hlt:i<k
  ·have hlt':j<bs.length:=by omega
   obtain⟨j2,hj2⟩:∃q,j+64=q:=⟨_,rfl⟩;have w:IntKind.i64.wrap ((j:Int)+64)=(j2:Int):=by rw[wrap64 (by omega) (by omega)];omega
   have l2:j2<=bs.length:=by omega
   have l3:j<=j2:=by omega
   have hsub:((bs.take j2).drop j).length=64:=by rw[List.length_drop,List.length_take];omega
   obtain⟨ns,hns,hbl⟩:=zzl hs hhs ((bs.take j2).drop j) hsub;have e1:List.map (D.int .u8) ((bs.take j2).drop j)=List.drop j (List.take j2 (bs.map (D.int .u8))):=by rw[List.map_drop,List.map_take]
   have e2:List.map (D.int .u8) ((bs.take j2).drop j)=List.drop j (List.map (D.int .u8) (bs.take j2)):=by rw[List.map_drop]
   rw[e1]at hbl;have l2':(j2:Int)<=bs.length:=by omega
   have l3':(j:Int)<=j2:=by omega
   rcases e4 with e4|e4
   ·simp[hsz,e3,e4,e5,hlt',w,l2,l3,l2',l3',hbl];exact ih _ _ (by omega) ⟨i+1,rfl,by omega,by simp[hsz],by simp[IsI,isK,hns],.inr (by simp),j2,by omega,by simp⟩
   ·simp[hsz,e3,e4,e5,hlt',w,l2,l3,l2',l3',hbl];exact ih _ _ (by omega) ⟨i+1,rfl,by omega,by simp[hsz],by simp[IsI,isK,hns],.inr (by simp[e4]),j2,by omega,by simp⟩
  ·obtain rfl:i=k:=by omega
   have hje:j=bs.length:=by omega
   subst hje;rcases e4 with e4|e4
   ·simp[hsz,e4,e5,-zvr];exact go _ (by simp[hsz]) (by simp[e3,IsI,isK,hhs])
   ·simp[hsz,e4,e5,-zvr];exact go _ (by simp[hsz]) (by simp[e3,IsI,isK,hhs])
 obtain⟨_,⟨s,hs,rfl⟩,h2⟩:=h;exact⟨s,hs,h2⟩
theorem z3g(q:Nat)(h:q<16):∃c:UInt8,(#[48,49,50,51,52,53,54,55,56,57,97,98,99,100,101,102]:Array UInt8)[q]? =some c:=⟨_,Array.getElem?_eq_getElem h⟩
theorem ztj(l:List UInt8)(hl:l.length=32):∃s:List UInt8,s.length=64/\C ydx [.ro (T l)] []=some (.one (.ro (T s)),[]):=by
 have h:Ends (λr=> ∃s:List UInt8,s.length=64/\r=(.one (.ro (T s)),[])) (C ydx [.ro (T l)] []):=by
  refine zcu Tryz.func172 ym8 rfl ?_;simp
  refine zdz (λm e=> ∃i,m=32-i/\i<=32/\e.size=30/\e.get 0=.one (.ro (T l))/\e.get 3=.one (.ro (.str ⟨#[48,49,50,51,52,53,54,55,56,57,97,98,99,100,101,102]⟩))/\IsI .u8 (2*i) (e.get 4)/\e.get 5=.one (.ro (N i)))
   ?_ 32 _ ⟨0,rfl,by omega,by simp,by simp,by simp,by simp[IsI],by simp⟩
  rintro m e ⟨i,rfl,hi,hsz,e0,e3,h4,e5⟩ ih;obtain⟨os,hos,e4⟩:=h4.out;clear h4;by_cases hlt:i<32
  ·have hlt':i<l.length:=by omega
   have hwi:IntKind.i64.wrap ((i:Int)+1)=((i+1:Nat):Int):=zae (by omega)
   have hb:=l[i].toNat_lt;have hq1:((l[i].toNat:Int)).tdiv 16=((l[i].toNat/16:Nat):Int):=by rw[Int.ofNat_tdiv];rfl
   have hr1:((l[i].toNat:Int)).tmod 16=((l[i].toNat % 16:Nat):Int):=by rw[Int.ofNat_tmod];rfl
   obtain⟨q,hq⟩:∃q,l[i].toNat/16=q:=⟨_,rfl⟩;obtain⟨r,hr⟩:∃r,l[i].toNat % 16=r:=⟨_,rfl⟩;have hql:q<16:=by omega
   have hrl:r<16:=by omega
   rw[hq]at hq1;rw[hr]at hr1
   have wq:IntKind.u8.wrap (q:Int)=(q:Int):=by
    show (q:Int) % 256=_;omega
   obtain⟨c1,hc1⟩:=z3g q hql;obtain⟨c2,hc2⟩:=z3g r hrl;have hap:os.length+2<=zad:=by simp[zad];omega
   simp[hsz,e0,e3,e4,e5,hlt',hwi,hq1,hr1,wq,hc1,hc2,hap];exact ih _ _ (by omega) ⟨i+1,rfl,by omega,by simp[hsz],by simp[e0],by simp[e3],by simp[IsI,isK,hos];omega,by simp⟩
  ·obtain rfl:i=32:=by omega
   simp[hsz,e0,e4,e5,hl,zq1];exact .of ⟨_,by simpa using hos,rfl⟩
 obtain⟨_,⟨s,hs,rfl⟩,h2⟩:=h;exact⟨s,hs,h2⟩
theorem z92(l:List UInt8)(hl:l.length<=1000):∃s:List UInt8,s.length=16/\C yk2 [.ro (T l)] []=some (.one (.ro (T s)),[]):=by
 obtain⟨s,hs,h1⟩:=z6q l hl;obtain⟨t,ht,h2⟩:=ztj s hs;refine⟨t.take 16,by simp[ht],zaf Tryz.func142 yk3 rfl ?_⟩
 simp[h1,h2,ht]
end Go.Qz
namespace Go.Qz
open Go.Proofs
theorem zoc(e:Ne):C yhy [.ro (NeD e)] []=some (.one (.ro (T e.name)),[]):=by
 refine zaf Tryz.func102 yhz rfl ?_;simp
theorem zpt(es:List Ne)(h:∀e∈es,neSz e)(hn:es.length<=1048576):C Fn89 [.ro (NeS es),.fn 90 []] []=some (.one (.ro (.bool (es.all za7))),[]):=by
 refine zaf Tryz.func89 Cv89 rfl ?_;simp
 refine zak (λm e=> ∃i,m=es.length-i/\i<=es.length/\e.size=18/\e.get 1=.one (.fn 90 [])/\e.get 7=.one (.ro (NeS es))/\e.get 8=.one (.ro (N es.length))/\e.get 9=.one (.ro (N i))/\
  (es.drop i).all za7=es.all za7) ?_ es.length _ ⟨0,rfl,Nat.zero_le _,by simp,by simp,by simp,by simp,by simp,rfl⟩
 rintro m e ⟨i,rfl,hi,hsz,h1,h7,h8,h9,hr⟩ ih;rcases Nat.lt_or_ge i es.length with hlt|hge
 ·have hd:es.drop i=es[i]::es.drop (i+1):=List.drop_eq_getElem_cons hlt;have hwi:IntKind.i64.wrap ((i:Int)+1)=((i+1:Nat):Int):=zae (by omega)
  have hfx:=zev es[i] (h _ (List.getElem_mem hlt));rw[hd,List.all_cons]at hr
  cases hp:za7 es[i]with
  |false=>
   rw[hp]at hr hfx;simp[hfx,hsz,h1,h7,h8,h9,hlt,<-hr]
  |true=>
   rw[hp]at hr hfx;rw[Bool.true_and]at hr;simp[hfx,hsz,h1,h7,h8,h9,hlt,hwi];exact ih _ _ (by omega) ⟨i+1,rfl,by omega,by simp[hsz],by simp[h1],by simp[h7],by simp[h8],by simp,hr⟩
 ·obtain rfl:i=es.length:=by omega
  rw[List.drop_length,List.all_nil]at hr;simp[hsz,h8,h9,<-hr]
def dupT:zaz->zaz->Bool
 |_,[]=>false
 |seen,x::r=>seen.contains x||dupT (seen++[x]) r
theorem zge(xs:zaz)(hn:xs.length<=2097152):C yjm [.ro (SS xs)] []=some (.one (.ro (.bool (dupT [] xs))),[]):=by
 refine zaf Tryz.func115 yju rfl ?_;simp
 refine zak (λm e=> ∃i,m=xs.length-i/\i<=xs.length/\e.size=25/\e.get 0=.one (.ro (SS xs))/\e.get 3=.one (.ro (N i))/\dupT (xs.take i) (xs.drop i)=dupT [] xs)
  ?_ xs.length _ ⟨0,rfl,Nat.zero_le _,by simp,by simp,by simp,rfl⟩
 rintro m e ⟨i,rfl,hi,hsz,h0,h3,hr⟩ ih;rcases Nat.lt_or_ge i xs.length with hlt|hge
 ·have hd:xs.drop i=xs[i]::xs.drop (i+1):=List.drop_eq_getElem_cons hlt;have hwi:IntKind.i64.wrap ((i:Int)+1)=((i+1:Nat):Int):=zae (by omega)
  rw[hd,dupT,<-List.take_succ_eq_append_getElem hlt]at hr;simp[hsz,h0,h3,hlt]
  refine zak (λm e=> ∃k,m=i-k/\k<=i/\e.size=25/\e.get 0=.one (.ro (SS xs))/\e.get 3=.one (.ro (N i))/\e.get 4=.one (.ro (N k))/\ ∀j (h:j<xs.length),j<k->(xs[j]==xs[i])=false)
   ?_ i _ ⟨0,rfl,Nat.zero_le _,by simp[hsz],by simp[h0],by simp[h3],by simp,by omega⟩
  clear hsz h0 h3;rintro m e ⟨k,rfl,hk,hsz,h0,h3,h4,hno⟩ ih2;rcases Nat.lt_or_ge k i with hlt2|hge2
  ·have hkx:k<xs.length:=by omega
   have hwk:IntKind.i64.wrap ((k:Int)+1)=((k+1:Nat):Int):=zae (by omega)
   have hki:(k:Int)<i:=by omega
   cases hq:xs[k]==xs[i]with
   |true=>
    have hc:(xs.take i).contains xs[i]=true:=by
     rw[List.contains_iff_mem];have:xs[k]=xs[i]:=by simpa using hq
     rw[<-this];exact List.mem_take_iff_getElem.2 ⟨k,by omega,rfl⟩
    rw[hc,Bool.true_or]at hr;simp[hsz,h0,h3,h4,hlt,hkx,hki,hq,<-hr]
   |false=>
    simp[hsz,h0,h3,h4,hlt,hkx,hki,hq,hwk];refine ih2 _ _ (by omega) ⟨k+1,rfl,by omega,by simp[hsz],by simp[h0],by simp[h3],by simp,λj h hj=>?_⟩
    rcases Nat.lt_or_ge j k with h' |h'
    ·exact hno j h h'
    ·obtain rfl:j=k:=by omega
     exact hq
  ·obtain rfl:k=i:=by omega
   have hc:(xs.take k).contains xs[k]=false:=by
    cases hq:(xs.take k).contains xs[k]with
    |false=>rfl
    |true=>
     rw[List.contains_iff_mem]at hq;obtain⟨j,hj,he⟩:=List.mem_take_iff_getElem.1 hq;have:=hno j (by omega) (by omega)
     rw[he]at this;simp at this
   rw[hc,Bool.false_or]at hr;simp[hsz,h3,h4,hwi];exact ih _ _ (by omega) ⟨k+1,rfl,by omega,by simp[hsz],by simp[h0],by simp,hr⟩
 ·obtain rfl:i=xs.length:=by omega
  rw[List.drop_length,dupT]at hr;simp[hsz,h0,h3,<-hr]
theorem zpu(es:List Ne)(h:∀e∈es,neSz e)(hn:es.length<=1048576):C yjg [.ro (NeS es)] []=some (.one (.ro (.bool (es.all za7&&decide (es.length<=6)))),[]):=by
 refine zaf Tryz.func114 yjl rfl ?_;simp
 refine zak (λm e=> ∃i,m=es.length-i/\i<=es.length/\e.size=19/\e.get 0=.one (.ro (NeS es))/\e.get 3=.one (.ro (N i))/\
  (es.drop i).all za7=es.all za7) ?_ es.length _ ⟨0,rfl,Nat.zero_le _,by simp,by simp,by simp,rfl⟩
 rintro m e ⟨i,rfl,hi,hsz,h0,h3,hr⟩ ih;rcases Nat.lt_or_ge i es.length with hlt|hge
 ·have hd:es.drop i=es[i]::es.drop (i+1):=List.drop_eq_getElem_cons hlt;have hwi:IntKind.i64.wrap ((i:Int)+1)=((i+1:Nat):Int):=zae (by omega)
  have hfx:=zps es[i] (h _ (List.getElem_mem hlt));rw[hd,List.all_cons]at hr
  cases hp:za7 es[i]with
  |false=>
   rw[hp]at hr hfx;simp[hfx,hsz,h0,h3,hlt,<-hr]
  |true=>
   rw[hp]at hr hfx;rw[Bool.true_and]at hr;simp[hfx,hsz,h0,h3,hlt,hwi];exact ih _ _ (by omega) ⟨i+1,rfl,by omega,by simp[hsz],by simp[h0],by simp,hr⟩
 ·obtain rfl:i=es.length:=by omega
  rw[List.drop_length,List.all_nil]at hr;simp[hsz,h0,h3,<-hr]
end Go.Qz
namespace Go.Qz
open Go.Proofs
def z3h:Option (List UInt8×List UInt8)->V
 |none=>.tup [.ro (T []),.ro (T []),.ro (.bool false)]
 |some p=>.tup [.ro (T p.1),.ro (T p.2),.ro (.bool (za2 p.1))]
theorem z3i(a b:UInt8)(d:List UInt8)(hn:d.length<=1000000):C yjv [.ro (T (a::b::d))] []=some (z3h (cutB d),[]):=by
 refine zaf Tryz.func116 yj0 rfl ?_;simp;generalize ht:a::b::d=t at *;have hd0:t.drop 2=d:=by rw[<-ht];rfl
 have hlen:t.length=d.length+2:=by rw[<-ht];rfl
 refine zak (λm e=> ∃i,m=t.length-i/\2<=i/\i<=t.length/\e.size=27/\e.get 0=.one (.ro (T t))/\e.get 5=.one (.ro (N i))/\(cutB (t.drop i)).map (λp=>((t.take i).drop 2++p.1,p.2))=cutB d)
  ?_ (t.length-2) _ ⟨2,rfl,Nat.le_refl _,by omega,by simp,by simp,by simp,?_⟩
 ·rintro m e ⟨i,rfl,h2,hi,hsz,h0,h5,hr⟩ ih;rcases Nat.lt_or_ge i t.length with hlt|hge
  ·have hwi:IntKind.i64.wrap ((i:Int)+1)=((i+1:Nat):Int):=zae (by omega)
   have hd:t.drop i=t[i]::t.drop (i+1):=List.drop_eq_getElem_cons hlt;rw[hd,cutB]at hr
   cases hc:t[i]==125 with
   |true=>
    rw[hc]at hr;simp at hr;have hl:=zh2 ((t.take i).drop 2) (by simp;omega)
    rw[zkk]at hl;have h3i:(0:Int)<=(i:Int)+1:=by omega
    have h4i:(i:Int)+1<=(t.length:Int):=by omega
    have h5i:((i:Int)+1).toNat=i+1:=by omega
    simp[hsz,h0,h5,hlt,hc,hwi,hl,<-hr,z3h,h2,hi,h3i,h4i,h5i]
   |false=>
    rw[hc]at hr;simp at hr;simp[hsz,h0,h5,hlt,hc,hwi];refine ih _ _ (by omega) ⟨i+1,rfl,by omega,by omega,by simp[hsz],by simp[h0],by simp,?_⟩
    rw[<-hr];have ht2:t.take (i+1)=t.take i++[t[i]]:=List.take_succ_eq_append_getElem hlt;rw[ht2,List.drop_append_of_le_length (by simp;omega)]
    cases cutB (t.drop (i+1))<;>simp
  ·obtain rfl:i=t.length:=by omega
   rw[List.drop_length]at hr;simp[cutB]at hr;simp[hsz,h0,h5,<-hr,z3h]
 ·rw[hd0];have:(t.take 2).drop 2=[]:=by rw[List.drop_eq_nil_iff];simp;omega
  rw[this];cases cutB d<;>simp
end Go.Qz
namespace Go.Qz
open Go.Proofs
theorem zxq(fs:List Fl)(n:List UInt8)(hn:fs.length<=1000000):C yj1 [.ro (FS fs),.ro (T n)] []=some (.one (.ro (I (idxN n fs 0))),[]):=by
 refine zaf Tryz.func117 yj6 rfl ?_;simp
 refine zak (λm e=> ∃i,m=fs.length-i/\i<=fs.length/\e.size=20/\e.get 0=.one (.ro (FS fs))/\e.get 1=.one (.ro (T n))/\e.get 5=.one (.ro (N i))/\idxN n (fs.drop i) i=idxN n fs 0)
  ?_ fs.length _ ⟨0,rfl,Nat.zero_le _,by simp,by simp,by simp,by simp,rfl⟩
 rintro m e ⟨i,rfl,hi,hsz,h0,h1,h5,hr⟩ ih;rcases Nat.lt_or_ge i fs.length with hlt|hge
 ·have hwi:IntKind.i64.wrap ((i:Int)+1)=((i+1:Nat):Int):=zae (by omega)
  have hd:fs.drop i=fs[i]::fs.drop (i+1):=List.drop_eq_getElem_cons hlt;rw[hd,idxN]at hr
  cases hc:fs[i].1==n with
  |true=>
   rw[hc]at hr;simp only[if_true]at hr;simp[hsz,h0,h1,h5,hlt,hc,<-hr]
  |false=>
   rw[hc]at hr;simp only[Bool.false_eq_true,if_false]at hr;simp[hsz,h0,h1,h5,hlt,hc,hwi];exact ih _ _ (by omega) ⟨i+1,rfl,by omega,by simp[hsz],by simp[h0],by simp[h1],by simp,hr⟩
 ·obtain rfl:i=fs.length:=by omega
  rw[List.drop_length,idxN]at hr;simp[hsz,h0,h5,<-hr]
def zcf(l:List UInt8):Bool:=l.all zcx&&inI l.length 1 80
theorem zpv(l:List UInt8)(hn:l.length<=140737488351232):C yds [.ro (T l)] []=some (.one (.ro (.bool (zcf l))),[]):=by
 refine zaf Tryz.func111 yi7 rfl ?_;simp;unfold zcf
 refine zak (λm e=> ∃i,m=l.length-i/\i<=l.length/\e.size=19/\e.get 0=.one (.ro (T l))/\e.get 3=.one (.ro (N i))/\((l.drop i).all zcx&&inI l.length 1 80)=(l.all zcx&&inI l.length 1 80))
  ?_ l.length _ ⟨0,rfl,Nat.zero_le _,by simp,by simp,by simp,rfl⟩
 rintro m e ⟨i,rfl,hi,hsz,h0,h3,hr⟩ ih;rcases Nat.lt_or_ge i l.length with hlt|hge
 ·have hwi:IntKind.i64.wrap ((i:Int)+1)=((i+1:Nat):Int):=zae (by omega)
  have hd:l.drop i=l[i]::l.drop (i+1):=List.drop_eq_getElem_cons hlt;have hin:=zlk l[i].toNat 32 126;have hw:IntKind.i64.wrap (l[i].toNat:Int)=(l[i].toNat:Int):=wrap64 (by omega) (by have:=l[i].toNat_lt;omega)
  rw[z58]at hin;rw[hd,List.all_cons]at hr
  cases hc:zcx l[i]with
  |false=>
   rw[hc]at hin hr;simp only[Bool.false_and]at hr;simp[hsz,h0,h3,hlt,hin,hw,<-hr]
  |true=>
   rw[hc]at hin hr;simp only[Bool.true_and]at hr;simp[hsz,h0,h3,hlt,hin,hw,hwi];exact ih _ _ (by omega) ⟨i+1,rfl,by omega,by simp[hsz],by simp[h0],by simp,hr⟩
 ·obtain rfl:i=l.length:=by omega
  rw[List.drop_length]at hr;simp only[List.all_nil,Bool.true_and]at hr;have hin:=zlk l.length 1 80;simp[hsz,h0,h3,hin,<-hr]
def letB(f:Fl):Bool:=za2 f.1&&zcf f.2
def zhd(fs:List Fl):Bool:=fs.all letB&&decide (fs.length<=8)
theorem z3j(fs:List Fl)(hn:fs.length<=140737488351232)(hx:∀f∈fs,f.1.length<=140737488351232/\f.2.length<=140737488351232):C yja [.ro (FS fs)] []=some (.one (.ro (.bool (zhd fs))),[]):=by
 refine zaf Tryz.func113 yjf rfl ?_;simp;unfold zhd
 refine zak (λm e=> ∃i,m=fs.length-i/\i<=fs.length/\e.size=29/\e.get 0=.one (.ro (FS fs))/\e.get 3=.one (.ro (N i))/\((fs.drop i).all letB&&decide (fs.length<=8))=(fs.all letB&&decide (fs.length<=8)))
  ?_ fs.length _ ⟨0,rfl,Nat.zero_le _,by simp,by simp,by simp,rfl⟩
 rintro m e ⟨i,rfl,hi,hsz,h0,h3,hr⟩ ih;rcases Nat.lt_or_ge i fs.length with hlt|hge
 ·have hwi:IntKind.i64.wrap ((i:Int)+1)=((i+1:Nat):Int):=zae (by omega)
  have hd:fs.drop i=fs[i]::fs.drop (i+1):=List.drop_eq_getElem_cons hlt;obtain⟨x1,x2⟩:=hx _ (List.getElem_mem hlt);have hp:=zh2 fs[i].1 x1;rw[zkk]at hp;have hl:=zpv fs[i].2 x2;rw[hd,List.all_cons]at hr;rw[show letB fs[i]=(za2 fs[i].1&&zcf fs[i].2)from rfl]at hr
  cases h1:za2 fs[i].1<;>cases h2:zcf fs[i].2<;>rw[h1]at hp<;>rw[h2]at hl<;>rw[h1,h2]at hr<;>simp only[Bool.false_and,Bool.true_and,Bool.and_false]at hr
  ·simp[hsz,h0,h3,hlt,hp,<-hr]
  ·simp[hsz,h0,h3,hlt,hp,<-hr]
  ·simp[hsz,h0,h3,hlt,hp,hl,<-hr]
  ·simp[hsz,h0,h3,hlt,hp,hl,hwi];exact ih _ _ (by omega) ⟨i+1,rfl,by omega,by simp[hsz],by simp[h0],by simp,hr⟩
 ·obtain rfl:i=fs.length:=by omega
  rw[List.drop_length]at hr;simp only[List.all_nil,Bool.true_and]at hr;simp[hsz,h0,h3,<-hr]
end Go.Qz
namespace Go.Qz
open Go.Proofs
structure Lets(lets:List Fl):Prop where
 len:lets.length<=8
 text:∀f∈lets,f.2.length<=80
theorem zim{t:List UInt8}(h:zfb t=true):∃r,t=36::123::r:=by
 match t,h with
 |a::b::r,h=>
  simp only[zfb,Bool.and_eq_true,beq_iff_eq]at h;exact⟨r,by rw[h.1,h.2]⟩
theorem zll(var:List UInt8->Nat×List UInt8):∀(k:Nat) (out text:List UInt8),text.length<=k->(zbc var out text).2.length<=80
 |k,out,[],_=>by rw[zeu];split<;>simp;omega
 |0,out,c::r,h=>by simp at h
 |k+1,out,c::r,h=>by
  cases hm:zfb (c::r)with
  |false=>
   rw[zc5 hm];exact zll var k _ _ (by simp at h;omega)
  |true=>
   obtain⟨q,hq⟩:=zim hm;rw[hq]at hm h ⊢
   cases hc:cutB q with
   |none=>rw[zgx hm hc];simp
   |some p=>
    have:=zgw (n:=p.1) (r:=p.2) hc;rw[zfc hm hc];split
    ·split
     ·split
      ·simp
      ·exact zll var k _ _ (by simp at h;omega)
     ·simp
    ·simp
theorem ztk(lets:List Fl):∀(d:Nat) (us:zaz) (n:List UInt8),(zce lets d us n).2.length<=80
 |0,_,_=>by simp[zce]
 |d+1,us,n=>by
  unfold zce;split
  ·simp
  ·split
   ·simp
   ·exact zll _ _ _ _ (Nat.le_refl _)
theorem zwh(lets:List Fl)(hl:Lets lets):∀(d:Nat) (us:zaz) (text:List UInt8),Deep lets d us->text.length<=80->
 C Fn40 [.ro (FS lets),.ro (T text),.ro (SS us)] []=some (.tup [.ro (T (zbc (zce lets d us) [] text).2),.ro (N (zbc (zce lets d us) [] text).1)],[]):=by
 intro d
 induction d with
 |zero=>intro us text hd;exact absurd hd.pos (Nat.lt_irrefl 0)
 |succ d ihd=>
  intro us text hd ht
  have hul:us.length<=8:=by
   have:=zkl hd.nodup hd.sub;simp at this;exact Nat.le_trans this hl.len
  refine zaf Tryz.func40 Cv40 rfl ?_;simp
  refine zak (λm e=> ∃out t,m=t.length/\t.length<=80/\out.length+t.length<=170/\e.size=89/\e.get 0=.one (.ro (FS lets))/\e.get 1=.one (.ro (T t))/\e.get 2=.one (.ro (SS us))/\e.get 8=.one (.ro (T out))/\
   zbc (zce lets (d+1) us) out t=zbc (zce lets (d+1) us) [] text)
   ?_ text.length _ ⟨[],text,rfl,ht,by simp;omega,by simp,by simp,by simp,by simp,by simp,rfl⟩
  rintro m e ⟨out,t,rfl,ht,hot,hsz,h0,h1,h2,h8,hr⟩ ih
  cases t with
  |nil=>
   rw[zeu]at hr;by_cases hlo:80<out.length
   ·rw[if_pos hlo]at hr;simp[hsz,h1,h8,hlo,<-hr]
   ·rw[if_neg hlo]at hr;simp[hsz,h1,h8,hlo,<-hr]
  |cons c r=>
   have hms:out.length+1<=zai:=by simp[zai];simp at hot;omega
   cases r with
   |nil=>
    rw[zc5 (by rfl)]at hr
    simp[hsz,h1,h8,hms];exact ih _ _ (by simp) ⟨out++[c],[],rfl,by simp,by simp at hot ⊢;omega,by simp[hsz],by simp[h0],by simp;rfl,by simp[h2],by simp,hr⟩
   |cons b q=>
    have f1:¬((q.length:Int)+1+1<2):=by omega
    have f2:(2:Int)<=(q.length:Int)+1+1:=by omega
    have f3:(1:Int)<=(q.length:Int)+1+1:=by omega
    cases hm:zfb (c::b::q)with
    |false=>
     rw[zc5 hm]at hr
     have hne:([c,b]==[36,123])=false:=by
      simp only[zfb]at hm;simpa using hm
     simp[hsz,h1,h8,hms,hne,f1,f2,f3];exact ih _ _ (by simp) ⟨out++[c],b::q,rfl,by simp at ht ⊢;omega,by simp at hot ⊢;omega,by simp[hsz],by simp[h0],by simp,by simp[h2],by simp,hr⟩
    |true=>
     obtain⟨q',hq'⟩:=zim hm;simp only[List.cons.injEq]at hq';obtain⟨rfl,rfl,rfl⟩:=hq';have hname:=z3i 36 123 q (by simp at ht;omega)
     cases hc:cutB q with
     |none=>
      rw[zgx hm hc]at hr;rw[hc]at hname;simp only[z3h]at hname;have hlet:=zxq lets [] (by have:=hl.len;omega)
      simp[hsz,h0,h1,f1,f2,hname,hlet,<-hr]
     |some p=>
      obtain⟨n,rest⟩:=p;have hcl:=zgw hc;rw[zfc hm hc]at hr;rw[hc]at hname;simp only[z3h]at hname;have hlet:=zxq lets n (by have:=hl.len;omega)
      cases hp:za2 n with
      |false=>
       rw[hp]at hname hr;simp only[Bool.false_eq_true,if_false]at hr;simp[hsz,h0,h1,f1,f2,hname,hlet,<-hr]
      |true=>
       rw[hp]at hname hr;simp only[if_true]at hr;rcases zq0 n lets 0 with⟨x1,x2⟩|⟨k,x1,hk,x2,x3⟩
       ·rw[x1]at hlet;have hv:zce lets (d+1) us n=(3,[]):=by rw[zce,x2]
        rw[hv]at hr;simp at hr;simp[hsz,h0,h1,f1,f2,hname,hlet,<-hr]
       ·rw[x1]at hlet;simp at hlet;simp[hsz,h0,h1,f1,f2,hname,hlet]
        refine zak (λm e=> ∃i,m=us.length-i/\i<=us.length/\e.size=89/\e.get 0=.one (.ro (FS lets))/\e.get 2=.one (.ro (SS us))/\e.get 8=.one (.ro (T out))/\e.get 9=.one (.ro (T n))/\e.get 10=.one (.ro (T rest))/\e.get 12=.one (.ro (N k))/\e.get 13=.one (.ro (N i))/\
         (us.drop i).contains n=us.contains n) ?_ us.length _ ⟨0,rfl,Nat.zero_le _,by simp[hsz],by simp[h0],by simp[h2],by simp[h8],by simp,by simp,by simp,by simp,rfl⟩
        clear h0 h1 h2 h8 hsz;rintro m e' ⟨i,rfl,hi,hsz,h0,h2,h8,h9,h10,h12,h13,hcn⟩ ih2;rcases Nat.lt_or_ge i us.length with hlt|hge
        ·have hwi:IntKind.i64.wrap ((i:Int)+1)=((i+1:Nat):Int):=zae (by omega)
         have hd':us.drop i=us[i]::us.drop (i+1):=List.drop_eq_getElem_cons hlt;rw[hd',List.contains_cons]at hcn
         cases he:us[i]==n with
         |true=>
          have he':(n==us[i])=true:=by
           have:us[i]=n:=by simpa using he
           simp[this]
          rw[he',Bool.true_or]at hcn;have hv:zce lets (d+1) us n=(4,[]):=by rw[zce,x2];simp only;rw[if_pos hcn.symm]
          rw[hv]at hr;simp at hr;simp[hsz,h2,h9,h13,hlt,he,<-hr]
         |false=>
          have he':(n==us[i])=false:=by
           have:¬us[i]=n:=by simpa using he
           simpa using λh=>this h.symm
          rw[he',Bool.false_or]at hcn;simp[hsz,h2,h9,h13,hlt,he,hwi];exact ih2 _ _ (by omega) ⟨i+1,rfl,by omega,by simp[hsz],by simp[h0],by simp[h2],by simp[h8],by simp[h9],by simp[h10],by simp[h12],by simp,hcn⟩
        ·obtain rfl:i=us.length:=by omega
         rw[List.drop_length]at hcn;have hcn':us.contains n=false:=hcn.symm;have hv:zce lets (d+1) us n=zbc (zce lets d (us++[n])) [] lets[k].2:=by rw[zce,x2];simp only;rw[if_neg (by rw[hcn'];simp)]
         have hrec:=ihd (us++[n]) lets[k].2 (hd.next hcn' (by rw[<-x3];exact List.mem_map_of_mem (List.getElem_mem hk))) (hl.text _ (List.getElem_mem hk))
         rw[<-hv,show SS (us++[n])=.sl 1 (us.map T++[T n]) by simp]at hrec
         have hvl:=ztk lets (d+1) us n;generalize hxv:zce lets (d+1) us n=xv at *;obtain⟨code,s⟩:=xv;simp only at hrec hr hvl;have ha:us.length+1<=zad:=by simp[zad];omega
         have ha0:us.length<=zad:=by simp[zad];omega
         by_cases hcode:code=0
         ·subst hcode;simp only[if_true]at hr;have hms2:out.length+s.length<=zai:=by simp[zai];simp at hot;omega
          by_cases hlo:80<(out++s).length
          ·rw[if_pos hlo]at hr;have hlo':80<out.length+s.length:=by simpa using hlo
           have hloi:(80:Int)<(out.length:Int)+(s.length:Int):=by omega
           simp[hsz,h0,h2,h8,h9,h10,h12,h13,hk,ha,ha0,hrec,hms2,hloi,<-hr]
          ·rw[if_neg hlo]at hr;have hlo':¬80<out.length+s.length:=by simpa using hlo
           have hloi:¬(80:Int)<(out.length:Int)+(s.length:Int):=by omega
           simp[hsz,h0,h2,h8,h9,h10,h12,h13,hk,ha,ha0,hrec,hms2,hloi];exact ih _ _ (by simp only[List.length_cons];omega) ⟨out++s,rest,rfl,by simp at ht;omega,by simp at ht hot ⊢;omega,by simp[hsz],by simp[h0],by simp,by simp[h2],by simp,hr⟩
         ·rw[if_neg hcode]at hr;have hcb:(code==0)=false:=by simpa using hcode
          simp[hsz,h0,h2,h9,h12,h13,hk,ha,ha0,hrec,hcb,<-hr]
end Go.Qz
namespace Go.Qz
open Go.Proofs
theorem z8o:∀d:List UInt8,Lib.cut d [125]=(match cutB d with|some p=>(p.1,p.2,true)|none=>(d,[],false))
 | []=>by simp[Lib.cut,Lib.index,cutB]
 |c::r=>by
  have ih:=z8o r;unfold cutB
  cases hc:c==125 with
  |true=>
   have h1:Lib.index (c::r) [125]=0:=by
    have:(125==c)=true:=by
     have:c=125:=by simpa using hc
     simp[this]
    simp[Lib.index,List.isPrefixOf,this]
   simp[Lib.cut,h1]
  |false=>
   have hne:(125==c)=false:=by
    have:¬c=125:=by simpa using hc
    simpa using λh=>this h.symm
   have h1:Lib.index (c::r) [125]=if Lib.index r [125]== -1 then-1 else Lib.index r [125]+1:=by
    simp[Lib.index,List.isPrefixOf,hne]
   have hg:=Lib.index_ge r [125];simp only[Bool.false_eq_true,if_false]
   cases hb:cutB r with
   |none=>
    rw[hb]at ih;simp only[Lib.cut]at ih
    have hn:¬0<=Lib.index r [125]:=by
     intro h0;rw[if_pos h0]at ih;simp at ih
    have hm:Lib.index r [125]= -1:=by omega
    rw[hm]at h1;simp at h1;simp[Lib.cut,h1]
   |some p=>
    rw[hb]at ih;simp only[Lib.cut]at ih
    have hp:0<=Lib.index r [125]:=by
     rcases Int.lt_or_le (Lib.index r [125]) 0 with h0|h0
     ·rw[if_neg (by omega)]at ih
      simp at ih
     ·exact h0
    rw[if_pos hp]at ih
    have hm:(Lib.index r [125]== -1)=false:=by
     have:Lib.index r [125]≠ -1:=by omega
     simpa using this
    rw[hm]at h1;simp only[Bool.false_eq_true,if_false]at h1;have hp':0<=Lib.index r [125]+1:=by omega
    have ht:(Lib.index r [125]+1).toNat=(Lib.index r [125]).toNat+1:=by omega
    simp only[Prod.mk.injEq,List.length_singleton,and_true]at ih;simp only[Lib.cut,h1,if_pos hp',ht,List.length_singleton,Option.map_some];rw[List.take_succ_cons,ih.1,Nat.add_right_comm,List.drop_succ_cons,ih.2]
def refV:Option (List UInt8×List UInt8)->V
 |none=>.tup [.ro (T []),.ro (T []),.ro (.bool false)]
 |some p=>if za2 p.1 then .tup [.ro (T p.1),.ro (T p.2),.ro (.bool true)]else .tup [.ro (T []),.ro (T []),.ro (.bool false)]
theorem ztl(d:List UInt8)(hn:d.length<=1000000):C z9u [.ro (T (36::123::d)),.ro (T [36,123])] []=some (.one (.ro (.bool true)),[]):=by
 refine zaf Tryz.func192 z9v rfl ?_;have f2:(2:Int)<=(d.length:Int)+1+1:=by omega
 simp[f2]
theorem z6r(d:List UInt8)(hn:d.length<=1000000):C yp7 [.ro (T (36::123::d)),.ro (T [36,123])] []=some (.one (.ro (T d)),[]):=by
 refine zaf Tryz.func217 yp8 rfl ?_;have h:=ztl d hn;have f2:(2:Int)<=(d.length:Int)+1+1:=by omega
 simp[h,f2]
theorem z93(d:List UInt8)(hn:d.length<=1000000):C ypq [.ro (T (36::123::d)),.ro (T [36,123])] []=some (.one (.ro (T d)),[]):=by
 refine zaf Tryz.func199 ypr rfl ?_;have h:=z6r d hn;simp[h]
theorem ztm(d:List UInt8)(hn:d.length<=1000000):C yod [.ro (T (36::123::d))] []=some (refV (cutB d),[]):=by
 refine zaf Tryz.func180 yof rfl ?_;have h1:=z93 d hn;have h2:=z2s d [125] (by omega)
 rw[z8o]at h2
 cases hc:cutB d with
 |none=>
  rw[hc]at h2;simp only at h2;simp[h1,h2,refV]
 |some p=>
  have hl:=zgw (n:=p.1) (r:=p.2) hc;rw[hc]at h2;simp only at h2;have h3:=zdi p.1 (by omega)
  unfold refV;cases hp:za2 p.1<;>rw[hp]at h3<;>simp[h1,h2,h3,hp]
end Go.Qz
namespace Go.Qz
open Go.Proofs
theorem zzm(f:Fl)(n:List UInt8)(c:Nat)(hc:c<10000)(hc2:5000<=c):C yps [.ro (FD f),.ptr c 0] [(c,[.ro (T n)])]=some (.one (.ro (.bool (f.1==n))),[(c,[.ro (T n)])]):=by
 refine zaf Tryz.func200 ypt rfl ?_;have h1:¬c=2:=by omega
 simp[hc,h1]
theorem ztn(fs:List Fl)(n:List UInt8)(hn:fs.length<=1000000):C ydz [.ro (FS fs),.fn 200 [.ptr 5100]] [(5100,[.ro (T n)])]=some (.one (.ro (I (idxN n fs 0))),[(5100,[.ro (T n)])]):=by
 refine zaf Tryz.func179 yd0 rfl ?_;simp
 refine zak (λm e=> ∃i,m=fs.length-i/\i<=fs.length/\e.size=19/\e.get 0=.one (.ro (FS fs))/\e.get 1=.one (.fn 200 [.ptr 5100])/\e.box 5100=some [.ro (T n)]/\e.get 7=.one (.ro (N fs.length))/\e.get 8=.one (.ro (N i))/\idxN n (fs.drop i) i=idxN n fs 0)
  ?_ fs.length _ ⟨0,rfl,Nat.zero_le _,by simp,by simp,by simp,by simp,by simp,by simp,rfl⟩
 rintro m e ⟨i,rfl,hi,hsz,h0,h1,hb,h7,h8,hr⟩ ih;rcases Nat.lt_or_ge i fs.length with hlt|hge
 ·have hwi:IntKind.i64.wrap ((i:Int)+1)=((i+1:Nat):Int):=zae (by omega)
  have hd:fs.drop i=fs[i]::fs.drop (i+1):=List.drop_eq_getElem_cons hlt;have hv:=zzm fs[i] n 5001 (by decide) (by decide)
  rw[hd,idxN]at hr
  cases hc:fs[i].1==n with
  |true=>
   rw[hc]at hv hr;simp only[if_true]at hr;simp[hsz,h0,h1,hb,h7,h8,hlt,hv,<-hr]
  |false=>
   rw[hc]at hv hr;simp only[Bool.false_eq_true,if_false]at hr;simp[hsz,h0,h1,hb,h7,h8,hlt,hv,hwi];exact ih _ _ (by omega) ⟨i+1,rfl,by omega,by simp[hsz],by simp[h0],by simp[h1],by simp,by simp[h7],by simp,hr⟩
 ·obtain rfl:i=fs.length:=by omega
  rw[List.drop_length,idxN]at hr;simp[hsz,hb,h7,h8,<-hr]
end Go.Qz
namespace Go.Qz
open Go.Proofs
def errA(c:Nat):A:=if c=0 then .ro .nili else .ro (.iface 195 (.agg [N c]))
theorem zod:errA 0=.ro .nili:=rfl
theorem zq2{c:Nat}(h:c≠0):errA c=.ro (.iface 195 (.agg [N c])):=if_neg h
def zxr(lets:List Fl)(d:Nat):Prop:=∀(us:zaz) (text:List UInt8),Deep lets d us->text.length<=80->
 C yl6 [.ptr 5000 0,.ro (T text)] [(5000,[.ro (FS lets),.own (SS us)])]=some (.tup [.ro (T (zbc (zce lets d us) [] text).2),errA (zbc (zce lets d us) [] text).1],[(5000,[.ro (FS lets),.own (SS us)])])
theorem zwi(lets:List Fl)(hl:Lets lets)(d:Nat)(hx:zxr lets d)(us:zaz)(n:List UInt8)(hd:Deep lets (d+1) us)(_:n.length<=1000000):
 C yog [.ptr 5000 0,.ro (T n)] [(5000,[.ro (FS lets),.own (SS us)])]=some (.tup [.ro (T (zce lets (d+1) us n).2),errA (zce lets (d+1) us n).1],[(5000,[.ro (FS lets),.own (SS us)])]):=by
 have hul:us.length<=8:=by
  have:=zkl hd.nodup hd.sub;simp at this;exact Nat.le_trans this hl.len
 refine zaf Tryz.func181 yoj rfl ?_;have hix:=ztn lets n (by have:=hl.len;omega)
 have hct:=zfd us n (by omega)
 rcases zq0 n lets 0 with⟨x1,x2⟩|⟨k,x1,hk,x2,x3⟩
 ·have hv:zce lets (d+1) us n=(3,[]):=by rw[zce,x2]
  rw[x1]at hix;rw[hv];simp[hix,errA]
 ·rw[x1]at hix;simp at hix
  cases hc:us.contains n with
  |true=>
   have hv:zce lets (d+1) us n=(4,[]):=by rw[zce,x2];simp only;rw[if_pos hc]
   rw[hc]at hct;rw[hv];simp[hix,hct,errA]
  |false=>
   have hv:zce lets (d+1) us n=zbc (zce lets d (us++[n])) [] lets[k].2:=by rw[zce,x2];simp only;rw[if_neg (by rw[hc];simp)]
   have hrec:=hx (us++[n]) lets[k].2 (hd.next hc (by rw[<-x3];exact List.mem_map_of_mem (List.getElem_mem hk))) (hl.text _ (List.getElem_mem hk))
   rw[show SS (us++[n])=.sl 1 (us.map T++[T n]) by simp,<-hv]at hrec
   rw[hc]at hct;have ha:us.length+1<=zad:=by simp[zad];omega
   have hw1:IntKind.i64.wrap (us.length:Int)=us.length:=wrap64 (by omega) (by omega)
   have hw3:(us.length:Int)<=us.length+1:=by omega
   generalize zce lets (d+1) us n=xv at *;obtain⟨code,s⟩:=xv;simp only at hrec ⊢;by_cases hcode:code=0
   ·subst hcode;rw[zod]at hrec ⊢;simp[hix,hct,hk,ha,hrec,hw1,hw3]
   ·rw[zq2 hcode]at hrec ⊢;simp[hix,hct,hk,ha,hrec,hw1,hw3]
end Go.Qz
namespace Go.Qz
open Go.Proofs
theorem zto:∀t:List UInt8,(Lib.index t [36,123]= -1/\ ∀var out,zbc var out t=if 80<(out++t).length then(5,[])else(0,out++t))∨
 ∃pre r,t=pre++36::123::r/\Lib.index t [36,123]=pre.length/\ ∀var out,zbc var out t=zbc var (out++pre) (36::123::r)
 | []=>.inl ⟨by rfl,λvar out=>by rw[zeu];simp⟩
 |c::r=>by
  cases hm:zfb (c::r)with
  |true=>
   obtain⟨q,hq⟩:=zim hm;rw[hq];exact .inr ⟨[],q,rfl,by simp[Lib.index,List.isPrefixOf],λvar out=>by simp⟩
  |false=>
   have hp:List.isPrefixOf [36,123] (c::r)=false:=by
    cases r with
    |nil=>simp[List.isPrefixOf]
    |cons b q=>
     simp only[zfb]at hm;have h1:(36==c)=(c==36):=Bool.beq_comm;have h2:(123==b)=(b==123):=Bool.beq_comm;simp[List.isPrefixOf,h1,h2,hm]
   have hi:Lib.index (c::r) [36,123]=if Lib.index r [36,123]== -1 then-1 else Lib.index r [36,123]+1:=by
    rw[Lib.index,hp];simp
   rcases zto r with⟨h1,h2⟩|⟨pre,q,h1,h2,h3⟩
   ·refine .inl ⟨by rw[hi,h1];rfl,λvar out=>?_⟩
    rw[zc5 hm,h2];simp
   ·refine .inr ⟨c::pre,q,by rw[h1];rfl,?_,λvar out=>?_⟩
    ·rw[hi,h2];have:((pre.length:Int)== -1)=false:=by rw[beq_eq_false_iff_ne];omega
     rw[this];simp
    ·rw[zc5 hm,h3];simp
theorem z3k(lets:List Fl)(hl:Lets lets):∀d,zxr lets d:=by
 intro d
 induction d with
 |zero=>intro us text hd;exact absurd hd.pos (Nat.lt_irrefl 0)
 |succ d ihd=>
  intro us text hd ht;refine zaf Tryz.func155 yme rfl ?_;simp
  refine zak (λm e=> ∃out t,m=t.length/\t.length<=80/\out.length<=80/\e.size=60/\e.get 0=.one (.ptr 5000 0)/\e.get 1=.one (.ro (T t))/\e.get 6=.one (.ro (T out))/\e.box 5000=some [.ro (FS lets),.own (SS us)]/\
   zbc (zce lets (d+1) us) out t=zbc (zce lets (d+1) us) [] text)
   ?_ text.length _ ⟨[],text,rfl,ht,by simp,by simp,by simp,by simp,by simp,by simp,rfl⟩
  rintro m e ⟨out,t,rfl,ht,ho,hsz,h0,h1,h6,hb,hr⟩ ih;have hix:=z2q t [36,123] (by omega)
  rcases zto t with⟨x1,x2⟩|⟨pre,r,x1,x2,x3⟩
  ·rw[x1]at hix;rw[x2]at hr;have hms:out.length+t.length<=zai:=by simp[zai];omega
   by_cases hlo:80<out.length+t.length
   ·rw[if_pos (by simpa using hlo)]at hr
    have hlo':(80:Int)<(out.length:Int)+t.length:=by omega
    simp[hsz,h1,h6,hb,hix,hms,hlo',<-hr,errA]
   ·rw[if_neg (by simpa using hlo)]at hr
    have hlo':¬(80:Int)<(out.length:Int)+t.length:=by omega
    simp[hsz,h1,h6,hb,hix,hms,hlo',<-hr,errA]
  ·subst x1;rw[x2]at hix;rw[x3]at hr;simp only[List.length_append,List.length_cons]at ht;have href:=ztm r (by omega)
   have hpl:(pre.length:Int)<=(pre.length:Int)+((r.length:Int)+1+1):=by omega
   have hp0:¬(pre.length:Int)<0:=by omega
   have hmk:zfb (36::123::r)=true:=rfl
   have hdt:List.drop pre.length (List.take (pre.length+(r.length+1+1)) (pre++36::123::r))=36::123::r:=by
    rw[List.take_of_length_le (by simp),List.drop_left]
   cases hc:cutB r with
   |none=>
    rw[zgx hmk hc]at hr;rw[hc]at href;simp only[refV]at href;simp[hsz,h1,hb,hix,hp0,hpl,hdt,href,<-hr,errA]
   |some p=>
    obtain⟨n,rest⟩:=p;have hcl:=zgw hc;rw[zfc hmk hc]at hr;rw[hc]at href;simp only[refV]at href
    cases hp:za2 n with
    |false=>
     rw[hp]at href hr;simp only[Bool.false_eq_true,if_false]at href hr;simp[hsz,h1,hb,hix,hp0,hpl,hdt,href,<-hr,errA]
    |true=>
     rw[hp]at href hr;simp only[if_true]at href hr;have hv:=zwi lets hl d ihd us n hd (by omega)
     have hvl:=ztk lets (d+1) us n;generalize hxe:zce lets (d+1) us n=xv at hv hr hvl;obtain⟨code,s⟩:=xv;simp only at hv hr hvl;by_cases hcode:code=0
     ·subst hcode;simp only[if_true]at hr;rw[zod]at hv;have hm1:pre.length+s.length<=zai:=by simp[zai];omega
      have hm2:out.length+(pre.length+s.length)<=zai:=by simp[zai];omega
      by_cases hlo:80<(out++pre++s).length
      ·rw[if_pos hlo]at hr;simp at hlo;have hlo':(80:Int)<(out.length:Int)+((pre.length:Int)+s.length):=by omega
       simp[hsz,h0,h1,h6,hb,hix,hp0,hpl,hdt,href,hv,hm1,hm2,hlo',<-hr,errA]
      ·rw[if_neg hlo]at hr;simp at hlo;have hlo':¬(80:Int)<(out.length:Int)+((pre.length:Int)+s.length):=by omega
       simp[hsz,h0,h1,h6,hb,hix,hp0,hpl,hdt,href,hv,hm1,hm2,hlo'];exact ih _ _ (by simp;omega) ⟨out++pre++s,rest,rfl,by omega,by simp;omega,by simp[hsz],by simp[h0],by simp,by simp,by simp,hr⟩
     ·rw[if_neg hcode]at hr;rw[zq2 hcode]at hv;simp[hsz,h0,h1,hb,hix,hp0,hpl,hdt,href,hv,<-hr,errA,hcode]
end Go.Qz
namespace Go.Qz
open Go.Proofs
def z94(l:List UInt8):Bool:=!l.isEmpty&&zxm l
theorem z95(l:List UInt8):z94 l=zcf l:=by
 unfold z94 zcf zxm inI
 cases l with
 |nil=>simp
 |cons c r=>
  simp only[List.isEmpty_cons,Bool.not_false,Bool.true_and,List.length_cons];rw[Bool.and_comm,show decide ((1:Int)<=((r.length+1:Nat):Int))=true by simp,Bool.true_and]
  congr 1;rw[Bool.eq_iff_iff];simp;omega
theorem zoe(l:List UInt8):C Fn96 [.ro (T l)] []=some (.one (.ro (.bool (zcf l))),[]):=by
 refine zaf Tryz.func96 Cv96 rfl ?_;have h:=ztd l;rw[<-z95,z94]
 cases l with
 |nil=>simp
 |cons c r=>simp[h]
theorem zxs(f:Fl)(hn:f.1.length<=140737488351232):C Fn88 [.ro (FD f)] []=some (.one (.ro (.bool (letB f))),[]):=by
 refine zaf Tryz.func88 Cv88 rfl ?_;have h1:=zdi f.1 hn;have h2:=zoe f.2;unfold letB;cases hp:za2 f.1<;>rw[hp]at h1<;>simp[h1,h2]
theorem z3l(f:Fl)(hn:f.1.length<=140737488351232):C yl2 [.ro (FD f)] []=some (.one (.ro (.bool (!letB f))),[]):=by
 refine zaf Tryz.func153 yl3 rfl ?_;have h1:=zxs f hn;simp[h1]
def zmd:List Fl->Nat->Int
 | [],_=> -1
 |f::r,i=>if letB f then zmd r (i+1)else i
theorem zpw:∀(fs:List Fl) (i:Nat),decide (zmd fs i≥0)= !fs.all letB
 | [],i=>rfl
 |f::r,i=>by
  unfold zmd;cases h:letB f
  ·simp[h]
  ·rw[if_pos rfl,zpw r (i+1)];simp[h]
theorem zwj(fs:List Fl)(hn:fs.length<=2000000)(hx:∀f∈fs,f.1.length<=140737488351232):C ydz [.ro (FS fs),.fn 153 []] []=some (.one (.ro (I (zmd fs 0))),[]):=by
 refine zaf Tryz.func179 yd0 rfl ?_;simp
 refine zak (λm e=> ∃i,m=fs.length-i/\i<=fs.length/\e.size=19/\e.get 0=.one (.ro (FS fs))/\e.get 1=.one (.fn 153 [])/\e.get 7=.one (.ro (N fs.length))/\e.get 8=.one (.ro (N i))/\zmd (fs.drop i) i=zmd fs 0)
  ?_ fs.length _ ⟨0,rfl,Nat.zero_le _,by simp,by simp,by simp,by simp,by simp,rfl⟩
 rintro m e ⟨i,rfl,hi,hsz,h0,h1,h7,h8,hr⟩ ih;rcases Nat.lt_or_ge i fs.length with hlt|hge
 ·have hwi:IntKind.i64.wrap ((i:Int)+1)=((i+1:Nat):Int):=zae (by omega)
  have hd:fs.drop i=fs[i]::fs.drop (i+1):=List.drop_eq_getElem_cons hlt;have hv:=z3l fs[i] (hx _ (List.getElem_mem hlt));rw[hd,zmd]at hr
  cases hc:letB fs[i]with
  |false=>
   rw[hc]at hv hr;simp only[Bool.false_eq_true,if_false]at hr;simp[hsz,h0,h1,h7,h8,hlt,hv,<-hr]
  |true=>
   rw[hc]at hv hr;simp only[if_true]at hr;simp[hsz,h0,h1,h7,h8,hlt,hv,hwi];exact ih _ _ (by omega) ⟨i+1,rfl,by omega,by simp[hsz],by simp[h0],by simp[h1],by simp[h7],by simp,hr⟩
 ·obtain rfl:i=fs.length:=by omega
  rw[List.drop_length,zmd]at hr;simp[hsz,h7,h8,<-hr]
theorem zou(fs:List Fl)(hn:fs.length<=2000000)(hx:∀f∈fs,f.1.length<=140737488351232):C yl4 [.ro (FS fs),.fn 153 []] []=some (.one (.ro (.bool (!fs.all letB))),[]):=by
 refine zaf Tryz.func154 yl5 rfl ?_;have h:=zwj fs hn hx;rw[<-zpw fs 0];simp[h]
def zem(fs:List Fl)(l:List UInt8):Nat×List UInt8:=if zhd fs&&zcf l then zbc (zce fs (fs.length+1) []) [] l else(1,[])
theorem zof{l:List UInt8}(h:zcf l=true):l.length<=80:=by
 unfold zcf inI at h;simp at h;omega
theorem zpx{fs:List Fl}(h:zhd fs=true):Lets fs:=by
 unfold zhd at h;simp only[Bool.and_eq_true,decide_eq_true_eq,List.all_eq_true]at h;refine⟨h.2,λf hf=>?_⟩
 have:=h.1 f hf;unfold letB at this;simp only[Bool.and_eq_true]at this;exact zof this.2
theorem zxt(fs:List Fl):Deep fs (fs.length+1) []:=⟨List.nodup_nil,λx hx=>by simp at hx,by simp⟩
theorem zlm(var:List UInt8->Nat×List UInt8):∀(k:Nat) (out text:List UInt8),text.length<=k->(zbc var out text).1≠0->(zbc var out text).2=[]
 |k,out,[],_=>by rw[zeu];split<;>simp
 |0,out,c::r,h=>by simp at h
 |k+1,out,c::r,h=>by
  cases hm:zfb (c::r)with
  |false=>
   rw[zc5 hm];exact zlm var k _ _ (by simp at h;omega)
  |true=>
   obtain⟨q,hq⟩:=zim hm;rw[hq]at hm h ⊢
   cases hc:cutB q with
   |none=>rw[zgx hm hc];simp
   |some p=>
    have:=zgw (n:=p.1) (r:=p.2) hc;rw[zfc hm hc];split
    ·split
     ·split
      ·simp
      ·exact zlm var k _ _ (by simp at h;omega)
     ·simp
    ·simp
theorem zzn(fs:List Fl)(l:List UInt8)(hn:fs.length<=2000000)(hx:∀f∈fs,f.1.length<=140737488351232/\f.2.length<=140737488351232)(_:l.length<=140737488351232):
 C ydn [.ro (FS fs),.ro (T l)] []=some (.tup [.ro (T (zem fs l).2),.ro (N (zem fs l).1)],[]):=by
 refine zaf Tryz.func106 yii rfl ?_;have h1:=zou fs hn (λf hf=>(hx f hf).1)
 have h2:=zoe l;unfold zem zhd;by_cases h8:fs.length<=8
 ·have h9:¬8<fs.length:=by omega
  cases hb:fs.all letB with
  |false=>rw[hb]at h1;simp[h1,h8,h9]
  |true=>
   cases hc:zcf l with
   |false=>rw[hb]at h1;rw[hc]at h2;simp[h1,h2,h8,h9]
   |true=>
    have hb':zhd fs=true:=by unfold zhd;rw[hb];simp[h8]
    have h3:=z3k fs (zpx hb') (fs.length+1) [] l (zxt fs) (zof hc);rw[show SS []=.sl 1 []from rfl]at h3
    rw[hb]at h1;rw[hc]at h2;have h4:=zlm (zce fs (fs.length+1) []) l.length [] l (Nat.le_refl _);generalize zbc (zce fs (fs.length+1) []) [] l=xv at *;obtain⟨code,s⟩:=xv;simp only at h3 h4;by_cases hcode:code=0
    ·subst hcode;rw[zod]at h3;simp[h1,h2,h8,h9,h3]
    ·rw[zq2 hcode]at h3;have h5:=h4 hcode;subst h5;have hce:=z5x code;simp[h1,h2,h8,h9,h3,hce]
 ·have h9:8<fs.length:=by omega
  simp[h8,h9]
end Go.Qz
namespace Go.Qz
open Go.Proofs
def clsB(s:List UInt8):Option (List UInt8):=match s.takeWhile zbm,s.dropWhile zbm with
 |_::_,c::q=>if c==93 then some q else none
 |_,_=>none
def clsR(r:List UInt8):Option (List UInt8):=match r with
 |c::s=>if c==33 then clsB s else clsB r
 | []=>none
theorem z96{p:UInt8->Bool}(s:List UInt8):(s.dropWhile p).length<=s.length:=by
 have h:=congrArg List.length (List.takeWhile_append_dropWhile (p:=p) (l:=s));rw[List.length_append]at h;omega
theorem zxu{s q:List UInt8}(h:clsB s=some q):q.length<s.length:=by
 unfold clsB at h;split at h
 ·rename_i a b c r h1 h2;split at h
  ·obtain rfl:=Option.some.inj h;have:=z96 (p:=zbm) s;rw[h2]at this;simp at this;omega
  ·cases h
 ·cases h
theorem zq3{r q:List UInt8}(h:clsR r=some q):q.length<r.length:=by
 unfold clsR at h;split at h
 ·split at h
  ·have:=zxu h;simp;omega
  ·exact zxu h
 ·cases h
def zd0(l:List UInt8):Bool:=match l with
 | []=>true
 |c::r=>if c==91 then(match h:clsR r with
   |none=>false
   |some q=>zd0 q)
  else if c==42||c==63 then zd0 r else zbm c&&zd0 r
termination_by l.length
decreasing_by
 ·have:=zq3 h;simp;omega
 ·simp
 ·simp
theorem ztp:zd0 []=true:=by rw[zd0]
theorem zog{r:List UInt8}:zd0 (91::r)=match clsR r with
 |none=>false
 |some q=>zd0 q:=by
 rw[zd0];simp only[beq_self_eq_true,if_true];split
 ·rename_i h;rw[h]
 ·rename_i q h;rw[h]
theorem zko{c:UInt8}{r:List UInt8}(h:(c==91)=false)(h2:(c==42||c==63)=true):zd0 (c::r)=zd0 r:=by
 rw[zd0];simp[h,h2]
theorem zln{c:UInt8}{r:List UInt8}(h:(c==91)=false)(h2:(c==42||c==63)=false):zd0 (c::r)=(zbm c&&zd0 r):=by
 rw[zd0];simp[h,h2]
def zir(l:List UInt8):Bool:=zd0 l&& !l.isEmpty
def zh4(g:List UInt8):Bool:=(decide ((zav 47 g).length<=5)&&(zav 47 g).all zir)&&decide (g.length<=40)
theorem z8p(g:List UInt8)(f:Nat)(hf:f<=g.length):∃n,f<=n/\n<=g.length/\(∀k (h:k<g.length),f<=k->k<n->zbm g[k]=true)/\(∀h:n<g.length,zbm g[n]=false)/\
 ((g.drop f).takeWhile zbm).length=n-f/\(g.drop f).dropWhile zbm=g.drop n:=by
 obtain⟨s,hs⟩:∃s,g.drop f=s:=⟨_,rfl⟩
 induction s generalizing f with
 |nil=>
  have hl:=congrArg List.length hs;simp at hl;obtain rfl:f=g.length:=by omega
  refine⟨g.length,Nat.le_refl _,Nat.le_refl _,λk h h1 h2=>by omega,λh=>by omega,by simp,by simp⟩
 |cons c r ih=>
  have hlt:f<g.length:=by
   have hl:=congrArg List.length hs;simp at hl;omega
  have hd:=List.drop_eq_getElem_cons hlt;rw[hd]at hs;cases hs
  cases hc:zbm g[f]with
  |false=>
   refine⟨f,Nat.le_refl _,hf,λk h h1 h2=>by omega,λ_=>hc,?_,?_⟩
   ·rw[hd,List.takeWhile_cons,hc];simp
   ·rw[hd,List.dropWhile_cons,hc];simp
  |true=>
   obtain⟨n,h1,h2,h3,h4,h5,h6⟩:=ih (f+1) (by omega) rfl
   refine⟨n,by omega,h2,λk h k1 k2=>?_,h4,?_,?_⟩
   ·by_cases he:k=f
    ·subst he;exact hc
    ·exact h3 k h (by omega) k2
   ·rw[hd,List.takeWhile_cons,hc,if_pos rfl,List.length_cons,h5];omega
   ·rw[hd,List.dropWhile_cons,hc,if_pos rfl,h6]
def zzo(g:List UInt8)(f n:Nat):Option (List UInt8):=if f=n then none else match g[n]? with
 |some c=>if c==93 then some (g.drop (n+1))else none
 |none=>none
theorem z3m{g:List UInt8}{f n:Nat}(hfn:f<=n)(h5:((g.drop f).takeWhile zbm).length=n-f)(h6:(g.drop f).dropWhile zbm=g.drop n):clsB (g.drop f)=zzo g f n:=by
 unfold clsB zzo;rw[h6];by_cases he:f=n
 ·subst he;have h0:(g.drop f).takeWhile zbm=[]:=List.length_eq_zero_iff.1 (by rw[h5];omega)
  rw[h0,if_pos rfl]
 ·rw[if_neg he]
  cases ht:(g.drop f).takeWhile zbm with
  |nil=>rw[ht]at h5;simp at h5;omega
  |cons a b=>
   rcases Nat.lt_or_ge n g.length with hn|hn
   ·rw[List.drop_eq_getElem_cons hn,List.getElem?_eq_getElem hn]
   ·rw[List.drop_eq_nil_of_le hn,List.getElem?_eq_none hn]
theorem z3n(r:List UInt8):∃f n,1<=f/\f<=n/\n<=(91::r).length/\(∀k (h:k<(91::r).length),f<=k->k<n->zbm (91::r)[k]=true)/\(∀h:n<(91::r).length,zbm (91::r)[n]=false)/\
 clsR r=zzo (91::r) f n/\(match r with
  |c::_=>f=if c==33 then 2 else 1
  | []=>f=1):=by
 cases r with
 |nil=>exact⟨1,1,by omega,by omega,by simp,λk h h1 h2=>by omega,λh=>by simp at h,rfl,rfl⟩
 |cons c s=>
  cases hc:c==33 with
  |true=>
   obtain⟨n,h1,h2,h3,h4,h5,h6⟩:=z8p (91::c::s) 2 (by simp)
   refine⟨2,n,by omega,h1,h2,h3,h4,?_,by simp[hc]⟩
   rw[<-z3m h1 h5 h6];simp[clsR,hc]
  |false=>
   obtain⟨n,h1,h2,h3,h4,h5,h6⟩:=z8p (91::c::s) 1 (by simp)
   refine⟨1,n,by omega,h1,h2,h3,h4,?_,by simp[hc]⟩
   rw[<-z3m h1 h5 h6];simp[clsR,hc]
theorem z3o{r q:List UInt8}(h:clsR r=some q):∃p,r=p++q:=by
 obtain⟨f,n,h1,h2,h3,_,_,h6,_⟩:=z3n r;rw[h6]at h;unfold zzo at h;split at h
 ·cases h
 ·split at h
  ·split at h
   ·obtain rfl:=Option.some.inj h;refine⟨r.take n,?_⟩;simp
   ·cases h
  ·cases h
def clsN(r:List UInt8):Nat:=match clsR r with
 |none=>0
 |some q=>1+r.length-q.length
def z6s(g:List UInt8)(f n:Nat):Nat:=if f=n then 0 else match g[n]? with
 |some c=>if c==93 then n+1 else 0
 |none=>0
theorem z97{r:List UInt8}{f n:Nat}(_:n<=(91::r).length)(h:clsR r=zzo (91::r) f n):clsN r=z6s (91::r) f n:=by
 unfold clsN z6s;rw[h];unfold zzo;by_cases he:f=n
 ·simp[he]
 ·rw[if_neg he,if_neg he]
  cases hg:(91::r)[n]? with
  |none=>rfl
  |some c=>
   by_cases hc:c=93
   ·subst hc;have:=(List.getElem?_eq_some_iff.1 hg).1;simp at this ⊢;omega
   ·simp[hc]
theorem z6t(g:List UInt8)(f n:Nat)(hfn:f<=n)(hn:n<=g.length)(hgl:g.length<=1048577)(hin:∀k (h:k<g.length),f<=k->k<n->zbm g[k]=true)(hout:∀h:n<g.length,zbm g[n]=false)
 (e:Env) (hsz:e.size=43) (h0:e.get 0=.one (.ro (T g))) (h3:e.get 3=.one (.ro (N f))):Run cx q183c3 e [.fn [(.tmp 2,3)] []]=some (.one (.ro (N (z6s g f n))),[]):=by
 simp[hsz,h3];refine zak (λm e=> ∃k,m=n-k/\f<=k/\k<=n/\e.size=43/\e.get 0=.one (.ro (T g))/\e.get 3=.one (.ro (N k))/\e.get 4=.one (.ro (N f))) ?_ (n-f) _ ⟨f,rfl,Nat.le_refl _,hfn,by simp[hsz],by simp[h0],by simp[h3],by simp⟩
 clear hsz h0 h3;rintro m e ⟨k,rfl,hfk,hkn,hsz,h0,h3,h4⟩ ih;rcases Nat.lt_or_ge k n with hlt|hge
 ·have hkg:k<g.length:=by omega
  have hb:=hin k hkg hfk hlt;have hwk:IntKind.i64.wrap ((k:Int)+1)=((k+1:Nat):Int):=zae (by omega)
  simp[hsz,h0,h3,hkg,zdb,hb,hwk];exact ih _ _ (by omega) ⟨k+1,rfl,by omega,by omega,by simp[hsz],by simp[h0],by simp,by simp[h4]⟩
 ·obtain rfl:k=n:=by omega
  have hwk:IntKind.i64.wrap ((k:Int)+1)=((k+1:Nat):Int):=zae (by omega)
  unfold z6s;rcases Nat.lt_or_ge k g.length with hkg|hkg
  ·have hb:=hout hkg;have hne:(k==g.length)=false:=by rw[beq_eq_false_iff_ne];omega
   have hne':¬k=g.length:=by omega
   by_cases hf:f=k
   ·subst hf;simp[hsz,h0,h3,h4,hkg,zdb,hb]
   ·have hfk2:(k==f)=false:=by rw[beq_eq_false_iff_ne];omega
    have hfk3:¬k=f:=by omega
    cases hc:g[k]==93 with
    |true=>simp[hsz,h0,h3,h4,hkg,zdb,hb,hf,hfk2,hne,hc,hwk]
    |false=>simp[hsz,h0,h3,h4,hkg,zdb,hb,hf,hfk2,hne,hc]
  ·obtain rfl:k=g.length:=by omega
   by_cases hf:f=g.length
   ·subst hf;simp[hsz,h0,h3,h4]
   ·have hfk2:(g.length==f)=false:=by rw[beq_eq_false_iff_ne];omega
    have hfk3:¬g.length=f:=by omega
    simp[hsz,h0,h3,h4,hf,hfk2]
theorem zzp(r:List UInt8)(hr:r.length<=1048576):C yok [.ro (T (91::r))] []=some (.one (.ro (N (clsN r))),[]):=by
 refine zaf Tryz.func183 yop rfl ?_;obtain⟨f,n,h1,h2,h3,h4,h5,h6,h7⟩:=z3n r;rw[z97 h3 h6];have go:=z6t (91::r) f n h2 h3 (by simp;omega) h4 h5
 cases r with
 |nil=>
  simp only at h7;subst h7;simp[-zvs];exact go _ (by simp) (by simp) (by simp)
 |cons c s=>
  simp only at h7;have hs1:(1:Int)<(s.length:Int)+1+1:=by omega
  cases hc:c==33 with
  |true=>
   rw[hc,if_pos rfl]at h7;subst h7;simp[hs1,hc,-zvs];exact go _ (by simp) (by simp) (by simp)
  |false=>
   rw[hc]at h7;simp only[Bool.false_eq_true,if_false]at h7;subst h7;simp[hs1,hc,-zvs];exact go _ (by simp) (by simp) (by simp)
theorem ztq(l:List UInt8)(hl:l.length<=1048576):C ymj [.ro (T l)] []=some (.one (.ro (.bool (zir l))),[]):=by
 refine zaf Tryz.func159 ymp rfl ?_;unfold zir;simp;refine zak (λm e=> ∃i,m=l.length-i/\i<=l.length/\e.size=45/\e.get 0=.one (.ro (T l))/\e.get 3=.one (.ro (N i))/\zd0 (l.drop i)=zd0 l) ?_ l.length _ ⟨0,rfl,Nat.zero_le _,by simp,by simp,by simp,rfl⟩
 rintro m e ⟨i,rfl,hi,hsz,h0,h3,hr⟩ ih;rcases Nat.lt_or_ge i l.length with hlt|hge
 ·have hd:l.drop i=l[i]::l.drop (i+1):=List.drop_eq_getElem_cons hlt;have hwi:IntKind.i64.wrap ((i:Int)+1)=((i+1:Nat):Int):=zae (by omega)
  cases h91:l[i]==91 with
  |true=>
   have e91:l[i]=91:=by simpa using h91
   rw[hd,e91,zog]at hr;have hc:=zzp (l.drop (i+1)) (by simp;omega)
   rw[<-e91,<-hd]at hc;unfold clsN at hc;have hil:(i:Int)<=l.length:=by omega
   cases hq:clsR (l.drop (i+1))with
   |none=>
    rw[hq]at hc hr;simp only at hc hr;simp[hsz,h0,h3,hlt,h91,hil,hc,<-hr]
   |some q=>
    rw[hq]at hc hr;simp only at hc hr;have hql:=zq3 hq;obtain⟨p,hp⟩:=z3o hq;have hpl:=congrArg List.length hp;simp only[List.length_drop,List.length_append]at hpl hc hql;obtain⟨n,hn⟩:∃n,1+(l.length-(i+1))-q.length=n+1:=⟨1+(l.length-(i+1))-q.length-1,by omega⟩
    rw[hn]at hc;have hin:i+n+1<=l.length:=by omega
    have hw1:IntKind.i64.wrap ((i:Int)+((n:Int)+1))=((i+n+1:Nat):Int):=by rw[wrap64 (by omega) (by omega)];omega
    have hw2:IntKind.i64.wrap (((i+n+1:Nat):Int)-1)=((i+n:Nat):Int):=by rw[wrap64 (by omega) (by omega)];omega
    have hw3:IntKind.i64.wrap (((i+n:Nat):Int)+1)=((i+n+1:Nat):Int):=zae (by omega)
    have hn0:((n:Int)+1==0)=false:=by rw[beq_eq_false_iff_ne];omega
    have hn0':¬(n:Int)+1=0:=by omega
    have hdrop:l.drop (i+n+1)=q:=by
     have:l.drop (i+n+1)=(l.drop (i+1)).drop n:=by rw[List.drop_drop];congr 1;omega
     rw[this,hp];have:n=p.length:=by omega
     rw[this,List.drop_left]
    generalize hj:i+n+1=j at *;generalize hj2:i+n=j2 at *;simp[hsz,h0,h3,hlt,h91,hil,hc,hw1,hw2,hw3,hn0];exact ih _ _ (by omega) ⟨j,rfl,by omega,by simp[hsz],by simp[h0],by simp,by rw[hdrop];exact hr⟩
  |false=>
   cases hany:(l[i]==42||l[i]==63)with
   |true=>
    rw[hd,zko h91 hany]at hr
    cases h42:l[i]==42 with
    |true=>
     simp[hsz,h0,h3,hlt,h91,h42,hwi];exact ih _ _ (by omega) ⟨i+1,rfl,by omega,by simp[hsz],by simp[h0],by simp,hr⟩
    |false=>
     rw[h42,Bool.false_or]at hany;simp[hsz,h0,h3,hlt,h91,h42,hany,hwi];exact ih _ _ (by omega) ⟨i+1,rfl,by omega,by simp[hsz],by simp[h0],by simp,hr⟩
   |false=>
    rw[hd,zln h91 hany]at hr;obtain⟨h42,h63⟩:=Bool.or_eq_false_iff.1 hany
    cases hb:zbm l[i]with
    |false=>
     rw[hb,Bool.false_and]at hr;simp[hsz,h0,h3,hlt,h91,h42,h63,zdb,hb,<-hr]
    |true=>
     rw[hb,Bool.true_and]at hr;simp[hsz,h0,h3,hlt,h91,h42,h63,zdb,hb,hwi];exact ih _ _ (by omega) ⟨i+1,rfl,by omega,by simp[hsz],by simp[h0],by simp,hr⟩
 ·obtain rfl:i=l.length:=by omega
  rw[List.drop_length,ztp]at hr
  cases l with
  |nil=>simp[hsz,h0,h3,<-hr]
  |cons c r=>simp[hsz,h0,h3,<-hr]
theorem zzq(g:List UInt8)(hg:g.length<=1048576):C ydr [.ro (T g)] []=some (.one (.ro (.bool (zh4 g))),[]):=by
 refine zaf Tryz.func110 yi2 rfl ?_;have hcut:=zjn g 47 47 rfl hg;have hwl:IntKind.i64.wrap ((g.length:Int)+1)=((g.length+1:Nat):Int):=zae (by omega)
 have hcnt:=zff 47 g;have hmem:=zfe 47 g;unfold zh4;generalize zav 47 g=xs at *;simp[hwl,hcut]
 refine zak (λm e=> ∃i,m=xs.length-i/\i<=xs.length/\e.size=30/\e.get 0=.one (.ro (T g))/\e.get 3=.one (.own (SS xs))/\e.get 4=.one (.ro (N i))/\(xs.drop i).all zir=xs.all zir)
  ?_ xs.length _ ⟨0,rfl,Nat.zero_le _,by simp,by simp,by simp,by simp,rfl⟩
 rintro m e ⟨i,rfl,hi,hsz,h0,h3,h4,hr⟩ ih;rcases Nat.lt_or_ge i xs.length with hlt|hge
 ·have hd:xs.drop i=xs[i]::xs.drop (i+1):=List.drop_eq_getElem_cons hlt;have hwi:IntKind.i64.wrap ((i:Int)+1)=((i+1:Nat):Int):=zae (by omega)
  have hgl:=ztq xs[i] (by have:=hmem _ (List.getElem_mem hlt);omega)
  rw[hd,List.all_cons]at hr
  cases hp:zir xs[i]with
  |false=>
   rw[hp]at hr hgl;simp[hsz,h3,h4,hlt,hgl,<-hr]
  |true=>
   rw[hp]at hr hgl;rw[Bool.true_and]at hr;simp[hsz,h3,h4,hlt,hgl,hwi];exact ih _ _ (by omega) ⟨i+1,rfl,by omega,by simp[hsz],by simp[h0],by simp[h3],by simp,hr⟩
 ·obtain rfl:i=xs.length:=by omega
  rw[List.drop_length,List.all_nil]at hr;by_cases h5:xs.length<=5
  ·by_cases h40:g.length<=40<;>simp[hsz,h0,h3,h4,<-hr,h5,h40]
  ·simp[hsz,h0,h3,h4,<-hr,h5]
end Go.Qz
namespace Go.Qz
open Go.Proofs
@[simp] theorem yeg:zbn Tryz.prog 176=some 1:=by kernel_rfl
@[simp] theorem ygi:zbn Tryz.prog 54=some 1:=by kernel_rfl
def zmh(b:List UInt8):List UInt8:=match b with
 |c::r=>if c==33 then r else c::r
 | []=>[]
def zq4(b:List UInt8):Bool:=match b with
 |c::_=>c==33
 | []=>false
def zpy(b:List UInt8):Bool:=(zmh b).all zbm&& !(zmh b).isEmpty
theorem zzr(b:List UInt8)(hb:b.length<=1048576):C yqb [.ro (T b),.ro (T [33])] []=some (.tup [.ro (T (zmh b)),.ro (.bool (zq4 b))],[]):=by
 have hp:C z9u [.ro (T b),.ro (T [33])] []=some (.one (.ro (.bool (zq4 b))),[]):=by
  refine zaf Tryz.func192 z9v rfl ?_
  cases b with
  |nil=>simp[zq4]
  |cons c r=>
   have h1:(1:Int)<=(r.length:Int)+1:=by omega
   cases hc:c==33<;>simp[zq4,h1,hc]
 refine zaf Tryz.func225 yqd rfl ?_
 cases b with
 |nil=>simp[hp,zq4,zmh]
 |cons c r=>
  have h1:(1:Int)<=(r.length:Int)+1:=by omega
  simp only[zq4]at hp;cases hc:c==33<;>rw[hc]at hp<;>simp[hp,zq4,zmh,hc,h1]
theorem z3p(b:List UInt8)(hb:b.length<=1048576):C yp9 [.ro (T b),.ro (T [33])] []=some (.tup [.ro (T (zmh b)),.ro (.bool (zq4 b))],[]):=by
 refine zaf Tryz.func223 yqa rfl ?_;have h:=zzr b hb;simp[h]
theorem ztr(b:List UInt8)(hb:b.length<=1048576):C yp4 [.ro (T b)] []=some (if zpy b then .tup [.own (.agg [.bool false,.hole]),.ro (.bool true)]else .tup [.ro (.agg [.bool false,.nilf]),.ro (.bool false)],[]):=by
 refine zaf Tryz.func215 yp6 rfl ?_;have h1:=z3p b hb;have h2:=zmc (zmh b) (by unfold zmh;split<;>(try split)<;>simp_all<;>omega)
 have h3:((zmh b).all zbm&& !(zmh b).isEmpty)=zpy b:=rfl;rw[h3]at h2;generalize zmh b=m at *;generalize zq4 b=n at *;generalize zpy b=ok at *;cases ok<;>simp[h1,h2]
theorem zts:∀l:List UInt8,(Lib.indexByte l 93= -1/\ ∀c∈l,c≠93)∨ ∃p q,l=p++93::q/\(∀c∈p,c≠93)/\Lib.indexByte l 93=p.length
 | []=>.inl ⟨rfl,by simp⟩
 |c::l=>by
  rw[Lib.indexByte]
  cases hc:c==93 with
  |true=>
   have:c=93:=by simpa using hc
   subst this;exact .inr ⟨[],l,rfl,by simp,by simp⟩
  |false=>
   have hne:c≠93:=by simpa using hc
   rcases zts l with⟨h1,h2⟩|⟨p,q,h1,h2,h3⟩
   ·refine .inl ⟨by rw[h1];simp,λx hx=>?_⟩
    rcases List.mem_cons.1 hx with rfl|hx
    ·exact hne
    ·exact h2 x hx
   ·refine .inr ⟨c::p,q,by rw[h1];rfl,λx hx=>?_,?_⟩
    ·rcases List.mem_cons.1 hx with rfl|hx
     ·exact hne
     ·exact h2 x hx
    ·rw[h3];have:((p.length:Int)== -1)=false:=by rw[beq_eq_false_iff_ne];omega
     rw[this];simp
theorem ztt{s:List UInt8}(h:∀c∈s,c≠93):clsB s=none:=by
 unfold clsB;split
 ·rename_i a b c q h1 h2
  have hc:c∈s:=by
   rw[<-List.takeWhile_append_dropWhile (p:=zbm) (l:=s),h2];simp
  have:=h c hc;simp[this]
 ·rfl
theorem z3q{r:List UInt8}(h:∀c∈r,c≠93):clsR r=none:=by
 unfold clsR;split
 ·split
  ·exact ztt (λc hc=>h c (List.mem_cons_of_mem _ hc))
  ·exact ztt h
 ·rfl
theorem z98{b q:List UInt8}{x:UInt8}(h:b.all zbm=true)(hx:zbm x=false):(b++x::q).takeWhile zbm=b/\(b++x::q).dropWhile zbm=x::q:=by
 induction b with
 |nil=>simp[hx]
 |cons c r ih=>
  rw[List.all_cons,Bool.and_eq_true]at h;obtain⟨h1,h2⟩:=ih h.2;rw[List.cons_append,List.takeWhile_cons,List.dropWhile_cons,if_pos h.1,if_pos h.1,h1,h2];exact⟨rfl,rfl⟩
theorem z99{b s:List UInt8}(h:b.all zbm=false)(h93:∀c∈b,c≠93):∃x q,(b++s).dropWhile zbm=x::q/\x≠93:=by
 induction b with
 |nil=>simp at h
 |cons c r ih=>
  rw[List.cons_append,List.dropWhile_cons]
  cases hc:zbm c with
  |false=>exact⟨c,r++s,by simp,h93 c (by simp)⟩
  |true=>
   rw[List.all_cons,hc,Bool.true_and]at h;obtain⟨x,q,h1,h2⟩:=ih h (λy hy=>h93 y (by simp[hy]))
   exact⟨x,q,by rw[if_pos rfl,h1],h2⟩
theorem zoh{b q:List UInt8}(h93:∀c∈b,c≠93):clsB (b++93::q)=if b.all zbm&& !b.isEmpty then some q else none:=by
 unfold clsB
 cases ha:b.all zbm with
 |true=>
  obtain⟨h1,h2⟩:=z98 (q:=q) (x:=93) ha (by decide)
  rw[h1,h2]
  cases b with
  |nil=>rfl
  |cons c r=>simp
 |false=>
  obtain⟨x,q',h1,h2⟩:=z99 (s:=93::q) ha h93;rw[h1];rw[Bool.false_and];split
  ·rename_i a b c r e1 e2;cases e2;simp[h2]
  ·rfl
theorem z3r{b q:List UInt8}(h93:∀c∈b,c≠93):clsR (b++93::q)=if zpy b then some q else none:=by
 cases b with
 |nil=>
  have e:clsB (93::q)=none:=zoh (b:=[]) (by simp)
  show clsR (93::q)=none;simp only[clsR];rw[if_neg (by decide)]
  exact e
 |cons c r=>
  rw[List.cons_append];simp only[clsR,zpy,zmh];by_cases hc:(c==33)=true
  ·simp only[if_pos hc];exact zoh (b:=r) (λy hy=>h93 y (by simp[hy]))
  ·simp only[if_neg hc];exact zoh (b:=c::r) h93
def zxv(l:List UInt8)(r:V×zar):Prop:=∃ds:List D,r=(.tup [.own (.sl 2 ds),.ro (.bool (zir l))],[])
set_option maxHeartbeats 2000000 in
theorem ztu(l:List UInt8)(hl:l.length<=1048576):Ends (zxv l) (C ypi [.ro (T l)] []):=by
 refine zcu Tryz.func196 ypp rfl ?_;simp
 refine zdz (λm e=> ∃(u:List UInt8) (ds:List D),m=u.length/\ds.length+u.length<=l.length/\(u.length<l.length->0<ds.length)/\zd0 u=zd0 l/\e.size=59/\e.get 0=.one (.ro (T u))/\e.get 4=.one (.own (.sl 2 ds)))
  ?_ l.length _ ⟨l,[],rfl,by simp,by simp,rfl,by simp,by simp,by simp⟩
 rintro m e ⟨u,ds,rfl,hlen,hpos,hr,hsz,h0,h4⟩ ih;have hdl:ds.length<=1048576:=by omega
 cases u with
 |nil=>
  rw[ztp]at hr
  have hg:zir l=decide (0<ds.length):=by
   unfold zir;rw[<-hr,Bool.true_and]
   cases l with
   |nil=>simp at hlen;simp[hlen]
   |cons c r=>simp at hpos;simp[hpos]
  have hgt:decide ((ds.length:Int)>0)=decide (0<ds.length):=by rw[decide_eq_decide];omega
  simp[hsz,h0,h4];refine .of ⟨ds,?_⟩;simp[hg]
 |cons c r=>
  simp only[List.length_cons]at hlen hpos;have ha:ds.length+1<=zad:=by simp[zad];omega
  have h1r:(1:Int)<=(r.length:Int)+1:=by omega
  have bad:zd0 (c::r)=false->zir l=false:=λh=>by unfold zir;rw[<-hr,h];rfl
  have next:∀(q:List UInt8) (d:D) (e':Env),q.length<=r.length->zd0 (c::r)=zd0 q->e'.size=59->e'.get 0=.one (.ro (T q))->e'.get 4=.one (.own (.sl 2 (ds++[d])))->Ends (zxv l) (Run cx (.loop q196l0) e' [.blk 0,.seq q196c4,.fn [(.tmp 2,211),(.tmp 3,4)] []]):=by
   intro q d e' hq hgr k1 k2 k3;exact ih q.length e' (by simp;omega) ⟨q,ds++[d],rfl,by simp;omega,by simp,by rw[<-hgr];exact hr,k1,k2,k3⟩
  cases h42:c==42 with
  |true=>
   have hg:zd0 (c::r)=zd0 r:=zko (by have:c=42:=by simpa using h42
                                     subst this;rfl) (by simp[h42])
   simp[hsz,h0,h4,h42,ha,h1r];exact next r (.agg [.bool true,.nilf]) _ (Nat.le_refl _) hg (by simp[hsz]) (by simp) (by simp)
  |false=>
   cases h63:c==63 with
   |true=>
    have hg:zd0 (c::r)=zd0 r:=zko (by have:c=63:=by simpa using h63
                                      subst this;rfl) (by simp[h63])
    simp[hsz,h0,h4,h42,h63,ha,h1r];exact next r (.agg [.bool false,.clo 214 []]) _ (Nat.le_refl _) hg (by simp[hsz]) (by simp) (by simp)
   |false=>
    cases h91:c==91 with
    |true=>
     have e91:c=91:=by simpa using h91
     subst e91;rw[zog]at bad next
     have hix:C 209 [.ro (T (91::r)),.ro (.int .u8 93)] []=some (.one (.ro (.int .i64 (Lib.indexByte (91::r) 93))),[]):=z5w (91::r) 93;rcases zts r with⟨i1,i2⟩|⟨b,q,i1,i2,i3⟩
     ·have hi:Lib.indexByte (91::r) 93= -1:=by rw[Lib.indexByte,i1];rfl
      rw[hi]at hix;have hb:=bad (by rw[z3q i2])
      simp[hsz,h0,hix];exact .of ⟨[],by rw[hb]⟩
     ·subst i1
      have hi:Lib.indexByte (91::(b++93::q)) 93=(b.length:Int)+1:=by
       rw[Lib.indexByte,i3];have:((b.length:Int)== -1)=false:=by rw[beq_eq_false_iff_ne];omega
       rw[this];simp
      rw[hi]at hix;have hcl:=ztr b (by simp at hlen;omega)
      rw[z3r i2]at bad next
      simp only[List.length_append,List.length_cons]at hlen;have n1:¬(b.length:Int)+1<0:=by omega
      have n2:(b.length:Int)+1<=(b.length:Int)+((q.length:Int)+1)+1:=by omega
      have n3:(1:Int)<=(b.length:Int)+1:=by omega
      have n6:(0:Int)<=(b.length:Int)+1:=by omega
      have n4:IntKind.i64.wrap ((b.length:Int)+1+1)=((b.length+2:Nat):Int):=by rw[wrap64 (by omega) (by omega)];omega
      have n5:((b.length+2:Nat):Int)<=(b.length:Int)+((q.length:Int)+1)+1:=by omega
      have d1:List.take b.length (b++93::q)=b:=by simp
      have d2:List.drop (b.length+2) (91::(b++93::q))=q:=by
       simp[List.drop_append]
      have d3:List.take (b.length+(q.length+1)) (b++93::q)=b++93::q:=by rw[List.take_of_length_le];simp
      cases hok:zpy b with
      |false=>
       rw[hok]at hcl bad;simp only[Bool.false_eq_true,if_false]at hcl bad;have hb:=bad trivial;simp[hsz,h0,hix,n1,n2,n3,n6,d1,hcl];exact .of ⟨[],by rw[hb]⟩
      |true=>
       rw[hok]at hcl next
       simp only[if_true]at hcl next
       generalize hk:b.length+2=k at *;simp[hsz,h0,h4,hix,n1,n2,n3,n6,n4,n5,d1,hcl,ha];exact next q (.agg [.bool false,.hole]) _ (by simp;omega) rfl (by simp[hsz]) (by simp[d3,d2]) (by simp)
    |false=>
     have hg:=zln (c:=c) (r:=r) h91 (by simp[h42,h63])
     rw[hg]at bad next
     cases hb:zbm c with
     |false=>
      rw[hb,Bool.false_and]at bad;have hbb:=bad rfl;simp[hsz,h0,h42,h63,h91,zgy,hb];exact .of ⟨[],by rw[hbb]⟩
     |true=>
      rw[hb,Bool.true_and]at next
      simp[hsz,h0,h4,h42,h63,h91,zgy,hb,ha,h1r];exact next r (.agg [.bool false,.hole]) _ (Nat.le_refl _) rfl (by simp[hsz]) (by simp) (by simp)
end Go.Qz
namespace Go.Qz
open Go.Proofs
abbrev GnD(x:List UInt8):D:=.agg [.bool (x==[42,42]),.hole]
def glN:List D->zaz->List D×Bool
 |acc,[]=>(acc,true)
 |acc,x::r=>if zir x=false then([],false)else if acc.length=5 then([],false)else glN (acc++[GnD x]) r
theorem z8q:∀(xs:zaz) (acc:List D),acc.length<=5->(glN acc xs).2=(decide (acc.length+xs.length<=5)&&xs.all zir)
 | [],acc,h=>by simp[glN,h]
 |x::r,acc,h=>by
  rw[glN]
  cases hx:zir x with
  |false=>simp[hx]
  |true=>
   by_cases h5:acc.length=5
   ·have:¬acc.length+(r.length+1)<=5:=by omega
    simp[h5];intro h;omega
   ·rw[if_neg (by simp),if_neg h5,z8q r _ (by simp;omega)]
    simp[hx,Nat.add_assoc,Nat.add_comm 1]
def zzs(g:List UInt8):List D×Bool:=if g.length<=40 then glN [] (zav 47 g)else([],false)
theorem z6u(g:List UInt8):(zzs g).2=zh4 g:=by
 unfold zzs zh4;by_cases h:g.length<=40
 ·rw[if_pos h,z8q _ _ (by simp)]
  simp[h]
 ·rw[if_neg h];simp[h]
theorem ztv(g:List UInt8)(hg:g.length<=1048576):C ynw [.ro (T g)] []=some (.tup [.own (.sl 2 (zzs g).1),.ro (.bool (zzs g).2)],[]):=by
 refine zaf Tryz.func176 yn0 rfl ?_;unfold zzs;by_cases h40:g.length<=40
 ·have h40':¬(40:Int)<g.length:=by omega
  rw[if_pos h40];have hs:=zv2 ⟨g.toArray⟩ ⟨#[47]⟩;have h47:(⟨#[47]⟩:ByteArray).size=1:=rfl;have hg2:g.length<=9223372036854775807:=by omega
  have hmem:=zfe 47 g;obtain⟨ns,ok,hok⟩:∃ns ok,glN [] (zav 47 g)=(ns,ok):=⟨_,_,rfl⟩;rw[hok];simp[h40',hs,h47,hg2];refine zn7 (λo ho=>?_)
  have o2:o.get 2=.one (.ptr 2 0):=by rw[ho];simp
  have o3:o.get 3=.one (.ptr 3 0):=by rw[ho];simp
  have o4:o.get 4=.one (.ptr 4 0):=by rw[ho];simp
  have os:o.size=36:=by rw[ho];simp
  have b2:o.box 2=some [.own (.sl 2 [])]:=by rw[ho];simp
  have b3:o.box 3=some [.ro (.bool false)]:=by rw[ho];simp
  have b4:o.box 4=some [.own (.sl 2 [])]:=by rw[ho];simp
  clear ho
  refine zn6 (λxs e=> ∃acc:List D,(∀x∈xs,x.length<=g.length)/\e.size=36/\e.get 2=.one (.ptr 9002 0)/\e.get 3=.one (.ptr 9003 0)/\e.get 4=.one (.ptr 9004 0)/\e.box 9002=some [.own (.sl 2 [])]/\e.box 9003=some [.ro (.bool false)]/\
   e.box 9004=some [.own (.sl 2 acc)]/\acc.length<=5/\glN acc xs=(ns,ok))
   ?_ _ _ ⟨[],hmem,by simp[os],by simp[o2],by simp[o3],by simp[o4],by simp[za1,b2],by simp[za1,b3],by simp[za1,b4],by simp,hok⟩
  rintro xs e ⟨acc,hx,es,e2,e3,e4,c2,c3,c4,hacc,hr⟩ ih
  cases xs with
  |nil=>
   rw[glN]at hr;cases hr;simp[o2,o3,o4,os,b2,b3,b4,c2,c3,c4,zdh]
  |cons x xs=>
   obtain⟨_,⟨ds,rfl⟩,hp⟩:=ztu x (by have:=hx x (by simp);omega)
   rw[glN]at hr
   cases hb:zir x with
   |false=>
    rw[hb]at hp hr;simp only[if_true]at hr;cases hr;simp[o2,o3,b2,b3,es,e2,e3,e4,c2,c3,c4,hp,zdh,zbz,za1]
   |true=>
    rw[hb]at hp hr;simp only[Bool.true_eq_false,if_false]at hr;by_cases h5:acc.length=5
    ·rw[if_pos h5]at hr;cases hr;simp[o2,o3,b2,b3,es,e2,e3,e4,c2,c3,c4,hp,h5,zdh,zbz,za1]
    ·rw[if_neg h5]at hr;have hne:(acc.length==5)=false:=by rw[beq_eq_false_iff_ne];omega
     have ha:acc.length+1<=zad:=by simp[zad];omega
     simp[es,e4,c4,hp,hne,ha];refine ih _ _ (by simp) ⟨acc++[GnD x],λy hy=>hx y (by simp[hy]),by simp[os],by simp[o2],by simp[o3],by simp[o4],by simp[zbz,za1,b2,c2],by simp[zbz,za1,b3,c3],by simp[zbz,za1,b4],by simp;omega,hr⟩
 ·have h40':(40:Int)<g.length:=by omega
  rw[if_neg h40];simp[h40']
theorem zzt(g:List UInt8)(hg:g.length<=1048576):C ylq [.ro (T g)] []=some (.one (.ro (.bool (zh4 g))),[]):=by
 refine zaf Tryz.func149 ylr rfl ?_;have h:=ztv g hg;rw[<-z6u];generalize zzs g=v at *;obtain⟨ns,ok⟩:=v;simp only at h;simp[h]
end Go.Qz
namespace Go.Qz
open Go.Proofs
theorem z3s(es:List Fl)(f:FuncId)(hfo:zfj ioS f=false)(p:Fl->Bool)(hn:es.length<=2000000)(hf:∀x∈es,C f [.ro (FD x)] []=some (.one (.ro (.bool (p x))),[])):
 C Fn87 [.ro (FS es),.fn f []] []=some (.one (.ro (.bool (es.all p))),[]):=by
 have hfo1:=hfo;simp at hfo1;refine zaf Tryz.func87 Cv87 rfl ?_;simp
 refine zak (λm e=> ∃i,m=es.length-i/\i<=es.length/\e.size=18/\e.get 1=.one (.fn f [])/\e.get 7=.one (.ro (FS es))/\e.get 8=.one (.ro (N es.length))/\e.get 9=.one (.ro (N i))/\
  (es.drop i).all p=es.all p) ?_ es.length _ ⟨0,rfl,Nat.zero_le _,by simp,by simp,by simp,by simp,by simp,rfl⟩
 rintro m e ⟨i,rfl,hi,hsz,h1,h7,h8,h9,hr⟩ ih;rcases Nat.lt_or_ge i es.length with hlt|hge
 ·have hd:es.drop i=es[i]::es.drop (i+1):=List.drop_eq_getElem_cons hlt;have hwi:IntKind.i64.wrap ((i:Int)+1)=((i+1:Nat):Int):=zae (by omega)
  have hfx:=hf es[i] (List.getElem_mem hlt);rw[hd,List.all_cons]at hr
  cases hp:p es[i]with
  |false=>
   rw[hp]at hr hfx;simp[hfx,hfo1,hsz,h1,h7,h8,h9,hlt,<-hr]
  |true=>
   rw[hp]at hr hfx;rw[Bool.true_and]at hr;simp[hfx,hfo1,hsz,h1,h7,h8,h9,hlt,hwi];exact ih _ _ (by omega) ⟨i+1,rfl,by omega,by simp[hsz],by simp[h1],by simp[h7],by simp[h8],by simp,hr⟩
 ·obtain rfl:i=es.length:=by omega
  rw[List.drop_length,List.all_nil]at hr;simp[hsz,h8,h9,<-hr]
theorem ztw(es:List Fl)(f:FuncId)(hfo:zfj ioS f=false)(p:Fl->Bool)(hn:es.length<=2000000)(hf:∀x∈es,C f [.ro (FD x)] []=some (.one (.ro (.bool (p x))),[])):
 C Fn91 [.ro (FS es),.fn f []] []=some (.one (.ro (.bool (es.all p))),[]):=by
 have hfo1:=hfo;simp at hfo1;refine zaf Tryz.func91 Cv91 rfl ?_;simp
 refine zak (λm e=> ∃i,m=es.length-i/\i<=es.length/\e.size=18/\e.get 1=.one (.fn f [])/\e.get 7=.one (.ro (FS es))/\e.get 8=.one (.ro (N es.length))/\e.get 9=.one (.ro (N i))/\
  (es.drop i).all p=es.all p) ?_ es.length _ ⟨0,rfl,Nat.zero_le _,by simp,by simp,by simp,by simp,by simp,rfl⟩
 rintro m e ⟨i,rfl,hi,hsz,h1,h7,h8,h9,hr⟩ ih;rcases Nat.lt_or_ge i es.length with hlt|hge
 ·have hd:es.drop i=es[i]::es.drop (i+1):=List.drop_eq_getElem_cons hlt;have hwi:IntKind.i64.wrap ((i:Int)+1)=((i+1:Nat):Int):=zae (by omega)
  have hfx:=hf es[i] (List.getElem_mem hlt);rw[hd,List.all_cons]at hr
  cases hp:p es[i]with
  |false=>
   rw[hp]at hr hfx;simp[hfx,hfo1,hsz,h1,h7,h8,h9,hlt,<-hr]
  |true=>
   rw[hp]at hr hfx;rw[Bool.true_and]at hr;simp[hfx,hfo1,hsz,h1,h7,h8,h9,hlt,hwi];exact ih _ _ (by omega) ⟨i+1,rfl,by omega,by simp[hsz],by simp[h1],by simp[h7],by simp[h8],by simp,hr⟩
 ·obtain rfl:i=es.length:=by omega
  rw[List.drop_length,List.all_nil]at hr;simp[hsz,h8,h9,<-hr]
theorem zwk(es:List Fl)(f:FuncId)(hfo:zfj ioS f=false)(p:Fl->Bool)(hn:es.length<=2000000)(hf:∀x∈es,C f [.ro (FD x)] []=some (.one (.ro (.bool (p x))),[])):
 C Fn93 [.ro (FS es),.fn f []] []=some (.one (.ro (.bool (es.all p))),[]):=by
 have hfo1:=hfo;simp at hfo1;refine zaf Tryz.func93 Cv93 rfl ?_;simp
 refine zak (λm e=> ∃i,m=es.length-i/\i<=es.length/\e.size=18/\e.get 1=.one (.fn f [])/\e.get 7=.one (.ro (FS es))/\e.get 8=.one (.ro (N es.length))/\e.get 9=.one (.ro (N i))/\
  (es.drop i).all p=es.all p) ?_ es.length _ ⟨0,rfl,Nat.zero_le _,by simp,by simp,by simp,by simp,by simp,rfl⟩
 rintro m e ⟨i,rfl,hi,hsz,h1,h7,h8,h9,hr⟩ ih;rcases Nat.lt_or_ge i es.length with hlt|hge
 ·have hd:es.drop i=es[i]::es.drop (i+1):=List.drop_eq_getElem_cons hlt;have hwi:IntKind.i64.wrap ((i:Int)+1)=((i+1:Nat):Int):=zae (by omega)
  have hfx:=hf es[i] (List.getElem_mem hlt);rw[hd,List.all_cons]at hr
  cases hp:p es[i]with
  |false=>
   rw[hp]at hr hfx;simp[hfx,hfo1,hsz,h1,h7,h8,h9,hlt,<-hr]
  |true=>
   rw[hp]at hr hfx;rw[Bool.true_and]at hr;simp[hfx,hfo1,hsz,h1,h7,h8,h9,hlt,hwi];exact ih _ _ (by omega) ⟨i+1,rfl,by omega,by simp[hsz],by simp[h1],by simp[h7],by simp[h8],by simp,hr⟩
 ·obtain rfl:i=es.length:=by omega
  rw[List.drop_length,List.all_nil]at hr;simp[hsz,h8,h9,<-hr]
theorem z3t(es:List (List UInt8))(f:FuncId)(hfo:zfj ioS f=false)(p:(List UInt8)->Bool)(hn:es.length<=2000000)(hf:∀x∈es,C f [.ro (T x)] []=some (.one (.ro (.bool (p x))),[])):
 C Fn95 [.ro (SS es),.fn f []] []=some (.one (.ro (.bool (es.all p))),[]):=by
 have hfo1:=hfo;simp at hfo1;refine zaf Tryz.func95 Cv95 rfl ?_;simp
 refine zak (λm e=> ∃i,m=es.length-i/\i<=es.length/\e.size=18/\e.get 1=.one (.fn f [])/\e.get 7=.one (.ro (SS es))/\e.get 8=.one (.ro (N es.length))/\e.get 9=.one (.ro (N i))/\
  (es.drop i).all p=es.all p) ?_ es.length _ ⟨0,rfl,Nat.zero_le _,by simp,by simp,by simp,by simp,by simp,rfl⟩
 rintro m e ⟨i,rfl,hi,hsz,h1,h7,h8,h9,hr⟩ ih;rcases Nat.lt_or_ge i es.length with hlt|hge
 ·have hd:es.drop i=es[i]::es.drop (i+1):=List.drop_eq_getElem_cons hlt;have hwi:IntKind.i64.wrap ((i:Int)+1)=((i+1:Nat):Int):=zae (by omega)
  have hfx:=hf es[i] (List.getElem_mem hlt);rw[hd,List.all_cons]at hr
  cases hp:p es[i]with
  |false=>
   rw[hp]at hr hfx;simp[hfx,hfo1,hsz,h1,h7,h8,h9,hlt,<-hr]
  |true=>
   rw[hp]at hr hfx;rw[Bool.true_and]at hr;simp[hfx,hfo1,hsz,h1,h7,h8,h9,hlt,hwi];exact ih _ _ (by omega) ⟨i+1,rfl,by omega,by simp[hsz],by simp[h1],by simp[h7],by simp[h8],by simp,hr⟩
 ·obtain rfl:i=es.length:=by omega
  rw[List.drop_length,List.all_nil]at hr;simp[hsz,h8,h9,<-hr]
theorem zkp(xs:zaz)(hn:xs.length<=1048576):C z5t [.ro (SS xs)] []=some (.one (.own (SS xs)),[]):=by
 cases xs with
 |nil=>exact z2r
 |cons x r=>
  show C z5t [.ro (.sl 1 (T x::r.map T))] []=some (.one (.own (.sl 1 (T x::r.map T))),[]);refine zaf Tryz.func151 z9t rfl ?_;have ha:r.length+1<=zad:=by simp at hn;simp[zad];omega
  simp[ha]
theorem zwl(es:List Fl)(f:FuncId)(hfo:zfj ioS f=false)(hn:es.length<=1048576)(more:zaz)(hm:more.length<=2)(hf:∀x∈es,C f [.ro (FD x)] []=some (.one (.ro (T x.1)),[])):
 C yhk [.ro (FS es),.fn f [],.ro (SS more)] []=some (.one (.ro (.bool (dupT more (es.map λx=>x.1)))),[]):=by
 have hfo1:=hfo;simp at hfo1;refine zaf Tryz.func100 yhq rfl ?_;have hc:=zkp more (by omega)
 simp[hc]
 refine zak (λm e=> ∃i seen,m=es.length-i/\i<=es.length/\seen.length=i+more.length/\e.size=30/\e.get 1=.one (.fn f [])/\e.get 7=.one (.own (SS seen))/\e.get 12=.one (.ro (FS es))/\e.get 13=.one (.ro (N es.length))/\e.get 14=.one (.ro (N i))/\
  dupT seen ((es.drop i).map λx=>x.1)=dupT more (es.map λx=>x.1)) ?_ es.length _ ⟨0,more,rfl,Nat.zero_le _,by simp,by simp,by simp,by simp,by simp,by simp,by simp,rfl⟩
 rintro m e ⟨i,seen,rfl,hi,hseen,hsz,h1,h7,h12,h13,h14,hr⟩ ih;rcases Nat.lt_or_ge i es.length with hlt|hge
 ·have hd:es.drop i=es[i]::es.drop (i+1):=List.drop_eq_getElem_cons hlt;have hwi:IntKind.i64.wrap ((i:Int)+1)=((i+1:Nat):Int):=zae (by omega)
  have hnm:=hf es[i] (List.getElem_mem hlt);have hct:=zfd seen es[i].1 (by omega)
  have ha:seen.length+1<=zad:=by simp[zad];omega
  rw[hd,List.map_cons,dupT]at hr
  cases hp:seen.contains es[i].1 with
  |true=>
   rw[hp]at hct hr;rw[Bool.true_or]at hr;simp[hfo1,hsz,h1,h7,h12,h13,h14,hlt,hnm,hct,<-hr]
  |false=>
   rw[hp]at hct hr;rw[Bool.false_or]at hr;simp[hfo1,hsz,h1,h7,h12,h13,h14,hlt,hwi,hnm,hct,ha];exact ih _ _ (by omega) ⟨i+1,seen++[es[i].1],rfl,by omega,by simp[hseen];omega,by simp[hsz],by simp[h1],by simp,by simp[h12],by simp[h13],by simp,hr⟩
 ·obtain rfl:i=es.length:=by omega
  rw[List.drop_length,List.map_nil,dupT]at hr;simp[hsz,h13,h14,<-hr]
theorem zov(es:List Fl)(f:FuncId)(hfo:zfj ioS f=false)(hn:es.length<=1048576)(more:zaz)(hm:more.length<=2)(hf:∀x∈es,C f [.ro (FD x)] []=some (.one (.ro (T x.1)),[])):
 C yh0 [.ro (FS es),.fn f [],.ro (SS more)] []=some (.one (.ro (.bool (dupT more (es.map λx=>x.1)))),[]):=by
 have hfo1:=hfo;simp at hfo1;refine zaf Tryz.func103 yh6 rfl ?_;have hc:=zkp more (by omega)
 simp[hc]
 refine zak (λm e=> ∃i seen,m=es.length-i/\i<=es.length/\seen.length=i+more.length/\e.size=30/\e.get 1=.one (.fn f [])/\e.get 7=.one (.own (SS seen))/\e.get 12=.one (.ro (FS es))/\e.get 13=.one (.ro (N es.length))/\e.get 14=.one (.ro (N i))/\
  dupT seen ((es.drop i).map λx=>x.1)=dupT more (es.map λx=>x.1)) ?_ es.length _ ⟨0,more,rfl,Nat.zero_le _,by simp,by simp,by simp,by simp,by simp,by simp,by simp,rfl⟩
 rintro m e ⟨i,seen,rfl,hi,hseen,hsz,h1,h7,h12,h13,h14,hr⟩ ih;rcases Nat.lt_or_ge i es.length with hlt|hge
 ·have hd:es.drop i=es[i]::es.drop (i+1):=List.drop_eq_getElem_cons hlt;have hwi:IntKind.i64.wrap ((i:Int)+1)=((i+1:Nat):Int):=zae (by omega)
  have hnm:=hf es[i] (List.getElem_mem hlt);have hct:=zfd seen es[i].1 (by omega)
  have ha:seen.length+1<=zad:=by simp[zad];omega
  rw[hd,List.map_cons,dupT]at hr
  cases hp:seen.contains es[i].1 with
  |true=>
   rw[hp]at hct hr;rw[Bool.true_or]at hr;simp[hfo1,hsz,h1,h7,h12,h13,h14,hlt,hnm,hct,<-hr]
  |false=>
   rw[hp]at hct hr;rw[Bool.false_or]at hr;simp[hfo1,hsz,h1,h7,h12,h13,h14,hlt,hwi,hnm,hct,ha];exact ih _ _ (by omega) ⟨i+1,seen++[es[i].1],rfl,by omega,by simp[hseen];omega,by simp[hsz],by simp[h1],by simp,by simp[h12],by simp[h13],by simp,hr⟩
 ·obtain rfl:i=es.length:=by omega
  rw[List.drop_length,List.map_nil,dupT]at hr;simp[hsz,h13,h14,<-hr]
theorem zq5(es:List Fl)(f:FuncId)(hfo:zfj ioS f=false)(hn:es.length<=1048576)(more:zaz)(hm:more.length<=2)(hf:∀x∈es,C f [.ro (FD x)] []=some (.one (.ro (T x.1)),[])):
 C yh7 [.ro (FS es),.fn f [],.ro (SS more)] []=some (.one (.ro (.bool (dupT more (es.map λx=>x.1)))),[]):=by
 have hfo1:=hfo;simp at hfo1;refine zaf Tryz.func104 yid rfl ?_;have hc:=zkp more (by omega)
 simp[hc]
 refine zak (λm e=> ∃i seen,m=es.length-i/\i<=es.length/\seen.length=i+more.length/\e.size=30/\e.get 1=.one (.fn f [])/\e.get 7=.one (.own (SS seen))/\e.get 12=.one (.ro (FS es))/\e.get 13=.one (.ro (N es.length))/\e.get 14=.one (.ro (N i))/\
  dupT seen ((es.drop i).map λx=>x.1)=dupT more (es.map λx=>x.1)) ?_ es.length _ ⟨0,more,rfl,Nat.zero_le _,by simp,by simp,by simp,by simp,by simp,by simp,by simp,rfl⟩
 rintro m e ⟨i,seen,rfl,hi,hseen,hsz,h1,h7,h12,h13,h14,hr⟩ ih;rcases Nat.lt_or_ge i es.length with hlt|hge
 ·have hd:es.drop i=es[i]::es.drop (i+1):=List.drop_eq_getElem_cons hlt;have hwi:IntKind.i64.wrap ((i:Int)+1)=((i+1:Nat):Int):=zae (by omega)
  have hnm:=hf es[i] (List.getElem_mem hlt);have hct:=zfd seen es[i].1 (by omega)
  have ha:seen.length+1<=zad:=by simp[zad];omega
  rw[hd,List.map_cons,dupT]at hr
  cases hp:seen.contains es[i].1 with
  |true=>
   rw[hp]at hct hr;rw[Bool.true_or]at hr;simp[hfo1,hsz,h1,h7,h12,h13,h14,hlt,hnm,hct,<-hr]
  |false=>
   rw[hp]at hct hr;rw[Bool.false_or]at hr;simp[hfo1,hsz,h1,h7,h12,h13,h14,hlt,hwi,hnm,hct,ha];exact ih _ _ (by omega) ⟨i+1,seen++[es[i].1],rfl,by omega,by simp[hseen];omega,by simp[hsz],by simp[h1],by simp,by simp[h12],by simp[h13],by simp,hr⟩
 ·obtain rfl:i=es.length:=by omega
  rw[List.drop_length,List.map_nil,dupT]at hr;simp[hsz,h13,h14,<-hr]
theorem zpz(es:List Ne)(f:FuncId)(hfo:zfj ioS f=false)(hn:es.length<=1048576)(more:zaz)(hm:more.length<=2)(hf:∀x∈es,C f [.ro (NeD x)] []=some (.one (.ro (T x.name)),[])):
 C yhr [.ro (NeS es),.fn f [],.ro (SS more)] []=some (.one (.ro (.bool (dupT more (es.map λx=>x.name)))),[]):=by
 have hfo1:=hfo;simp at hfo1;refine zaf Tryz.func101 yhx rfl ?_;have hc:=zkp more (by omega)
 simp[hc]
 refine zak (λm e=> ∃i seen,m=es.length-i/\i<=es.length/\seen.length=i+more.length/\e.size=30/\e.get 1=.one (.fn f [])/\e.get 7=.one (.own (SS seen))/\e.get 12=.one (.ro (NeS es))/\e.get 13=.one (.ro (N es.length))/\e.get 14=.one (.ro (N i))/\
  dupT seen ((es.drop i).map λx=>x.name)=dupT more (es.map λx=>x.name)) ?_ es.length _ ⟨0,more,rfl,Nat.zero_le _,by simp,by simp,by simp,by simp,by simp,by simp,by simp,rfl⟩
 rintro m e ⟨i,seen,rfl,hi,hseen,hsz,h1,h7,h12,h13,h14,hr⟩ ih;rcases Nat.lt_or_ge i es.length with hlt|hge
 ·have hd:es.drop i=es[i]::es.drop (i+1):=List.drop_eq_getElem_cons hlt;have hwi:IntKind.i64.wrap ((i:Int)+1)=((i+1:Nat):Int):=zae (by omega)
  have hnm:=hf es[i] (List.getElem_mem hlt);have hct:=zfd seen es[i].name (by omega)
  have ha:seen.length+1<=zad:=by simp[zad];omega
  rw[hd,List.map_cons,dupT]at hr
  cases hp:seen.contains es[i].name with
  |true=>
   rw[hp]at hct hr;rw[Bool.true_or]at hr;simp[hfo1,hsz,h1,h7,h12,h13,h14,hlt,hnm,hct,<-hr]
  |false=>
   rw[hp]at hct hr;rw[Bool.false_or]at hr;simp[hfo1,hsz,h1,h7,h12,h13,h14,hlt,hwi,hnm,hct,ha];exact ih _ _ (by omega) ⟨i+1,seen++[es[i].name],rfl,by omega,by simp[hseen];omega,by simp[hsz],by simp[h1],by simp,by simp[h12],by simp[h13],by simp,hr⟩
 ·obtain rfl:i=es.length:=by omega
  rw[List.drop_length,List.map_nil,dupT]at hr;simp[hsz,h13,h14,<-hr]
end Go.Qz
namespace Go.Qz
open Go.Proofs
structure Rc where
 name:List UInt8
 ver:List UInt8
 lets:List Fl
 builds:List Ne
 runs:List Ne
 srcs:List Fl
 pcs:List Fl
 steps:zaz
abbrev RcD(r:Rc):D:=.agg [T r.name,T r.ver,FS r.lets,NeS r.builds,NeS r.runs,FS r.srcs,FS r.pcs,SS r.steps]
def flSz(f:Fl):Prop:=f.1.length<=1048576/\f.2.length<=1048576
structure RcSz(r:Rc):Prop where
 name:r.name.length<=1048576
 ver:r.ver.length<=1048576
 lets:r.lets.length<=1048576
 builds:r.builds.length<=1048576
 runs:r.runs.length<=1048576
 srcs:r.srcs.length<=1048576
 pcs:r.pcs.length<=1048576
 steps:r.steps.length<=1048576
 letz:∀f∈r.lets,flSz f
 bld:∀e∈r.builds,neSz e
 run:∀e∈r.runs,neSz e
 src:∀f∈r.srcs,flSz f
 pc:∀f∈r.pcs,flSz f
 step:∀x∈r.steps,x.length<=1048576
def hexB(b:UInt8):Bool:=(decide (48<=b.toNat)&&decide (b.toNat<=57))||(decide (97<=b.toNat)&&decide (b.toNat<=102))
def zq6(l:List UInt8):Bool:=l.all hexB&&decide (l.length=16)
def zjp(f:Fl):Bool:=zh3 f.1&&zq6 f.2
def pcOk(f:Fl):Bool:=za2 f.1&&zh4 f.2
theorem z6v(l:List UInt8)(_:l.length<=1048576):C ylj [.ro (T l)] []=some (.one (.ro (.bool (zq6 l))),[]):=by
 refine zaf Tryz.func148 ylp rfl ?_;unfold zq6;by_cases h16:l.length=16
 ·have h16':((l.length:Int)==16)=true:=by rw[beq_iff_eq];omega
  have h16'':(l.length==16)=true:=by rw[beq_iff_eq];exact h16
  simp[h16]
  refine zak (λm e=> ∃i,m=l.length-i/\i<=l.length/\e.size=35/\e.get 0=.one (.ro (T l))/\e.get 8=.one (.ro (N 16))/\e.get 9=.one (.ro (N i))/\(l.drop i).all hexB=l.all hexB) ?_ l.length _
   ⟨0,rfl,Nat.zero_le _,by simp,by simp,by simp,by simp,rfl⟩
  rintro m e ⟨i,rfl,hi,hsz,h0,h8,h9,hr⟩ ih;rcases Nat.lt_or_ge i l.length with hlt|hge
  ·have hd:l.drop i=l[i]::l.drop (i+1):=List.drop_eq_getElem_cons hlt;have hwi:IntKind.i64.wrap ((i:Int)+1)=((i+1:Nat):Int):=zae (by omega)
   have hl16:(i:Int)<16:=by omega
   rw[hd,List.all_cons]at hr;have hx:hexB l[i]=((decide (48<=l[i].toNat)&&decide (l[i].toNat<=57))||(decide (97<=l[i].toNat)&&decide (l[i].toNat<=102))):=rfl
   cases hp:hexB l[i]with
   |false=>
    rw[hp]at hr hx;by_cases a1:l[i].toNat<48
    ·have a3:l[i].toNat<97:=by omega
     simp[hsz,h0,h8,h9,hlt,hl16,a1,a3,<-hr]
    ·by_cases a2:57<l[i].toNat
     ·by_cases a3:l[i].toNat<97
      ·simp[hsz,h0,h8,h9,hlt,hl16,a1,a2,a3,<-hr]
      ·have a4:102<l[i].toNat:=by
        rcases Nat.lt_or_ge 102 l[i].toNat with h|h
        ·exact h
        ·simp[h,show 97<=l[i].toNat by omega]at hx
       simp[hsz,h0,h8,h9,hlt,hl16,a1,a2,a3,a4,<-hr]
     ·simp[show 48<=l[i].toNat by omega,show l[i].toNat<=57 by omega]at hx
   |true=>
    rw[hp,Bool.true_and]at hr;rw[hp]at hx;have fin:∀e':Env,e'.size=35->e'.get 0=.one (.ro (T l))->e'.get 8=.one (.ro (N 16))->e'.get 9=.one (.ro (N (i+1)))->_:=λe' k0 k1 k2 k3=>ih (l.length-(i+1)) e' (by omega) ⟨i+1,rfl,by omega,k0,k1,k2,k3,hr⟩
    by_cases a1:l[i].toNat<48
    ·simp[show ¬48<=l[i].toNat by omega,show ¬97<=l[i].toNat by omega]at hx
    ·by_cases a2:57<l[i].toNat
     ·have a5:97<=l[i].toNat/\l[i].toNat<=102:=by
       simp only[show ¬l[i].toNat<=57 by omega,decide_false,Bool.and_false,Bool.false_or]at hx
       simpa using hx.symm
      have a3:¬l[i].toNat<97:=by omega
      have a4:¬102<l[i].toNat:=by omega
      simp[hsz,h0,h8,h9,hlt,hl16,a1,a2,a3,a4,hwi];exact fin _ (by simp[hsz]) (by simp[h0]) (by simp[h8]) (by simp)
     ·simp[hsz,h0,h8,h9,hlt,hl16,a1,a2,hwi];exact fin _ (by simp[hsz]) (by simp[h0]) (by simp[h8]) (by simp)
  ·obtain rfl:i=l.length:=by omega
   rw[List.drop_length,List.all_nil]at hr;simp[hsz,h8,h9,h16,<-hr]
 ·have h16':(l.length==16)=false:=by rw[beq_eq_false_iff_ne];exact h16
  simp[h16,h16']
theorem z6w(l:List UInt8)(hl:l.length<=1048576):C ydp [.ro (T l)] []=some (.one (.ro (.bool (zq6 l))),[]):=by
 refine zaf Tryz.func108 yis rfl ?_;unfold zq6;simp
 refine zak (λm e=> ∃i,m=l.length-i/\i<=l.length/\e.size=36/\e.get 0=.one (.ro (T l))/\e.get 3=.one (.ro (N i))/\(l.drop i).all hexB=l.all hexB) ?_ l.length _
  ⟨0,rfl,Nat.zero_le _,by simp,by simp,by simp,rfl⟩
 rintro m e ⟨i,rfl,hi,hsz,h0,h3,hr⟩ ih;rcases Nat.lt_or_ge i l.length with hlt|hge
 ·have hd:l.drop i=l[i]::l.drop (i+1):=List.drop_eq_getElem_cons hlt;have hwi:IntKind.i64.wrap ((i:Int)+1)=((i+1:Nat):Int):=zae (by omega)
  rw[hd,List.all_cons]at hr;have hx:hexB l[i]=((decide (48<=l[i].toNat)&&decide (l[i].toNat<=57))||(decide (97<=l[i].toNat)&&decide (l[i].toNat<=102))):=rfl
  cases hp:hexB l[i]with
  |false=>
   rw[hp]at hr hx;by_cases a1:48<=l[i].toNat
   ·by_cases a2:l[i].toNat<=57
    ·simp[a1,a2]at hx
    ·by_cases a3:97<=l[i].toNat
     ·by_cases a4:l[i].toNat<=102
      ·simp[a3,a4]at hx
      ·simp[hsz,h0,h3,hlt,a1,a2,a3,a4,<-hr]
     ·simp[hsz,h0,h3,hlt,a1,a2,a3,<-hr]
   ·have a3:¬97<=l[i].toNat:=by omega
    simp[hsz,h0,h3,hlt,a1,a3,<-hr]
  |true=>
   rw[hp,Bool.true_and]at hr;rw[hp]at hx;have fin:∀e':Env,e'.size=36->e'.get 0=.one (.ro (T l))->e'.get 3=.one (.ro (N (i+1)))->_:=λe' k0 k1 k2=>ih (l.length-(i+1)) e' (by omega) ⟨i+1,rfl,by omega,k0,k1,k2,hr⟩
   by_cases a1:48<=l[i].toNat
   ·by_cases a2:l[i].toNat<=57
    ·simp[hsz,h0,h3,hlt,a1,a2,hwi];exact fin _ (by simp[hsz]) (by simp[h0]) (by simp)
    ·have a5:97<=l[i].toNat/\l[i].toNat<=102:=by
      simp only[a2,decide_false,Bool.and_false,Bool.false_or]at hx;simpa using hx.symm
     simp[hsz,h0,h3,hlt,a1,a2,a5,hwi];exact fin _ (by simp[hsz]) (by simp[h0]) (by simp)
   ·simp[a1,show ¬97<=l[i].toNat by omega]at hx
 ·obtain rfl:i=l.length:=by omega
  rw[List.drop_length,List.all_nil]at hr;by_cases h16:l.length=16<;>simp[hsz,h0,h3,h16,<-hr]
theorem z6x(f:Fl)(h:flSz f):C Fn92 [.ro (FD f)] []=some (.one (.ro (.bool (zjp f))),[]):=by
 refine zaf Tryz.func92 Cv92 rfl ?_;have h1:=z3a f.1 (by have:=h.1;omega)
 have h2:=z6v f.2 h.2;unfold zjp;cases hp:zh3 f.1<;>rw[hp]at h1<;>simp[h1,h2]
theorem yaa(f:Fl)(h:flSz f):C Fn94 [.ro (FD f)] []=some (.one (.ro (.bool (pcOk f))),[]):=by
 refine zaf Tryz.func94 Cv94 rfl ?_;have h1:=zdi f.1 (by have:=h.1;omega)
 have h2:=zzt f.2 h.2;unfold pcOk;cases hp:za2 f.1<;>rw[hp]at h1<;>simp[h1,h2]
def zd9(r:Rc):Bool:=(za2 r.name&&zfg r.ver&&decide (r.steps.length<=10))&&(decide (r.lets.length<=6)&&decide (r.builds.length<=6)&&decide (r.runs.length<=6)&&decide (r.srcs.length<=6)&&decide (r.pcs.length<=6))&&
 (r.lets.all letB&&r.builds.all za7&&r.runs.all za7&&r.srcs.all zjp&&r.pcs.all pcOk&&r.steps.all zcf)
theorem mx5(a b c d e:Nat):decide ((6:Int)<mxI (mxI (mxI (mxI (a:Int) b) c) d) e)= !(decide (a<=6)&&decide (b<=6)&&decide (c<=6)&&decide (d<=6)&&decide (e<=6)):=by
 rw[Bool.eq_iff_iff];simp only[decide_eq_true_eq,Bool.not_eq_true',Bool.and_eq_false_iff,decide_eq_false_iff_not];unfold mxI;constructor
 ·intro h;split at h<;>split at h<;>split at h<;>split at h<;>omega
 ·intro h;split<;>split<;>split<;>split<;>omega
theorem zq7(r:Rc)(h:RcSz r):C Fn35 [.ro (RcD r)] []=some (.one (.ro (.bool (zd9 r))),[]):=by
 refine zaf Tryz.func35 Cv35 rfl ?_;have h1:=zdi r.name (by have:=h.name;omega)
 have h2:=zkm r.ver h.ver;have a1:=z3s r.lets 88 (by decide) letB (by have:=h.lets;omega) (λf hf=>zxs f (by have:=(h.letz f hf).1;omega))
 have a2:=zpt r.builds h.bld h.builds;have a3:=zpt r.runs h.run h.runs;have a4:=ztw r.srcs 92 (by decide) zjp (by have:=h.srcs;omega) (λf hf=>z6x f (h.src f hf))
 have a5:=zwk r.pcs 94 (by decide) pcOk (by have:=h.pcs;omega) (λf hf=>yaa f (h.pc f hf))
 have a6:=z3t r.steps 96 (by decide) zcf (by have:=h.steps;omega) (λx _=>zoe x)
 have m5:=mx5 r.lets.length r.builds.length r.runs.length r.srcs.length r.pcs.length;unfold zd9;generalize (decide (r.lets.length<=6)&&decide (r.builds.length<=6)&&decide (r.runs.length<=6)&&decide (r.srcs.length<=6)&&decide (r.pcs.length<=6))=few at *;generalize hmx:mxI (mxI (mxI (mxI (r.lets.length:Int) r.builds.length) r.runs.length) r.srcs.length) r.pcs.length=mx at *;generalize r.lets.all letB=b1 at *;generalize r.builds.all za7=b2 at *;generalize r.runs.all za7=b3 at *;generalize r.srcs.all zjp=b4 at *;generalize r.pcs.all pcOk=b5 at *;generalize r.steps.all zcf=b6 at *
 generalize za2 r.name=c1 at *;generalize zfg r.ver=c2 at *;cases c1
 ·simp[h1]
 cases c2
 ·simp[h1,h2]
 by_cases h10:r.steps.length<=10
 ·have h10':¬(10:Int)<r.steps.length:=by omega
  cases few with
  |false=>
   have m6:(6:Int)<mx:=by simpa using m5
   simp[h1,h2,h10,h10',hmx,m6]
  |true=>
   have m6:¬(6:Int)<mx:=by simpa using m5
   cases b1
   ·simp[h1,h2,h10,h10',hmx,m6,a1]
   cases b2
   ·simp[h1,h2,h10,h10',hmx,m6,a1,a2]
   cases b3
   ·simp[h1,h2,h10,h10',hmx,m6,a1,a2,a3]
   cases b4
   ·simp[h1,h2,h10,h10',hmx,m6,a1,a2,a3,a4]
   cases b5
   ·simp[h1,h2,h10,h10',hmx,m6,a1,a2,a3,a4,a5]
   simp[h1,h2,h10,h10',hmx,m6,a1,a2,a3,a4,a5,a6]
 ·have h10':(10:Int)<r.steps.length:=by omega
  simp[h1,h2,h10,h10']
def zdo(r:Rc):Bool:=dupT [[110,97,109,101],[118,101,114,115,105,111,110]] (r.lets.map λx=>x.1)||dupT [] (r.builds.map λx=>x.name)||dupT [r.name] (r.runs.map λx=>x.name)||dupT [] (r.srcs.map λx=>x.1)||dupT [r.name] (r.pcs.map λx=>x.1)
theorem zow(r:Rc)(h:RcSz r):C Fn36 [.ro (RcD r)] []=some (.one (.ro (.bool (zdo r))),[]):=by
 refine zaf Tryz.func36 Cv36 rfl ?_;have n1:∀f:Fl,C Fn97 [.ro (FD f)] []=some (.one (.ro (T f.1)),[]):=λf=>zaf Tryz.func97 Cv97 rfl (by simp)
 have n2:∀f:Fl,C Fn98 [.ro (FD f)] []=some (.one (.ro (T f.1)),[]):=λf=>zaf Tryz.func98 Cv98 rfl (by simp)
 have n3:∀f:Fl,C Fn99 [.ro (FD f)] []=some (.one (.ro (T f.1)),[]):=λf=>zaf Tryz.func99 Cv99 rfl (by simp)
 have t1:=zwl r.lets 97 (by decide) h.lets [[110,97,109,101],[118,101,114,115,105,111,110]] (by simp) (λf _=>n1 f)
 have t2:=zpz r.builds 102 (by decide) h.builds [] (by simp) (λf _=>zoc f)
 have t3:=zpz r.runs 102 (by decide) h.runs [r.name] (by simp) (λf _=>zoc f)
 have t4:=zov r.srcs 98 (by decide) h.srcs [] (by simp) (λf _=>n2 f)
 have t5:=zq5 r.pcs 99 (by decide) h.pcs [r.name] (by simp) (λf _=>n3 f)
 rw[show SS []=.sl 1 []from rfl]at t2 t4
 rw[show SS [r.name]=.sl 1 [T r.name]from rfl]at t3 t5
 rw[show SS [[110,97,109,101],[118,101,114,115,105,111,110]]=.sl 1 [T [110,97,109,101],T [118,101,114,115,105,111,110]]from rfl]at t1
 unfold zdo;generalize dupT [[110,97,109,101],[118,101,114,115,105,111,110]] (r.lets.map λx=>x.1)=b1 at *
 generalize dupT [] (r.builds.map λx=>x.name)=b2 at *
 generalize dupT [r.name] (r.runs.map λx=>x.name)=b3 at *
 generalize dupT [] (r.srcs.map λx=>x.1)=b4 at *
 generalize dupT [r.name] (r.pcs.map λx=>x.1)=b5 at *
 cases b1
 ·cases b2
  ·cases b3
   ·cases b4
    ·simp[t1,t2,t3,t4,t5]
    ·simp[t1,t2,t3,t4]
   ·simp[t1,t2,t3]
  ·simp[t1,t2]
 ·simp[t1]
end Go.Qz
namespace Go.Qz
open Go.Proofs
def NesSm(xs:List Ne)(n:Nat):Prop:=xs.length<=n/\ ∀x∈xs,neSm x
theorem NesSm.more{xs:List Ne}{n:Nat}(h:NesSm xs n){x:Ne}(hx:neSm x):NesSm (xs++[x]) (n+1):=
 ⟨by have:=h.1;simp;omega,λy hy=>(List.mem_append.1 hy).elim (h.2 y) (λh=>by simp at h;subst h;exact hx)⟩
theorem NesSm.up{xs:List Ne}{n m:Nat}(h:NesSm xs n)(hm:n<=m):NesSm xs m:=⟨Nat.le_trans h.1 hm,h.2⟩
theorem FlsSm.up{xs:List Fl}{n m:Nat}(h:FlsSm xs n)(hm:n<=m):FlsSm xs m:=⟨Nat.le_trans h.1 hm,h.2⟩
theorem LinesSm.up{xs:zaz}{n m:Nat}(h:LinesSm xs n)(hm:n<=m):LinesSm xs m:=⟨Nat.le_trans h.1 hm,h.2⟩
structure RcSm(r:Rc)(n:Nat):Prop where
 name:r.name.length<=200
 ver:r.ver.length<=200
 lets:FlsSm r.lets n
 builds:NesSm r.builds n
 runs:NesSm r.runs n
 srcs:FlsSm r.srcs n
 pcs:FlsSm r.pcs n
 steps:LinesSm r.steps n
theorem RcSm.up{r:Rc}{n m:Nat}(h:RcSm r n)(hm:n<=m):RcSm r m:=⟨h.name,h.ver,h.lets.up hm,h.builds.up hm,h.runs.up hm,h.srcs.up hm,h.pcs.up hm,h.steps.up hm⟩
abbrev RcB(r:Rc):List A:=[.ro (T r.name),.ro (T r.ver),.own (FS r.lets),.own (NeS r.builds),.own (NeS r.runs),.own (FS r.srcs),.own (FS r.pcs),.own (SS r.steps)]
abbrev RcZ:List A:=[.ro (.str ⟨#[]⟩),.ro (.str ⟨#[]⟩),.own (.sl 2 []),.own (.sl 3 []),.own (.sl 3 []),.own (.sl 2 []),.own (.sl 2 []),.own (.sl 1 [])]
def zwm(bs:List Int)(n k:Nat)(x:V×zar):Prop:=∃(r:Rc) (j:Nat),RcSm r n/\j<=k/\x=(.one (.own (RcD r)),[(5000,RB bs j)])
section
variable{bs:List Int}(hb:Seed bs){i:Nat}
theorem rr0(nm:List UInt8)(e:Env)(r:Rc)(j:Nat)(hr:RcSm r 11)(hj:j<=i+50)(hsz:e.size=75)(h4:e.get 4=.one (.ptr 4 0))(h5:e.get 5=.one (.ptr 5 0))(b0:e.box 5000=some (RB bs j))(b4:e.box 4=some RcZ)(b5:e.box 5=some (RcB r)):
 Ends (zwm bs 11 (i+50)) (Run cx q78c0 e [.fn [(.cell 4 29,29)] [(5000,RB bs i)]]):=by
 simp[hsz,h4,h5,b0,b4,b5];exact .of ⟨r,j,hr,hj,rfl⟩
include hb in
theorem rr1(nm:List UInt8)(hnm:nm.length<=100)(hi:i<=10000)(e:Env)(r:Rc)(j:Nat)(hr:RcSm r 10)(hj:j<=i+42)(hsz:e.size=75)(h0:e.get 0=.one (.ptr 5000 0))(h1:e.get 1=.one (.ro (T nm)))(h4:e.get 4=.one (.ptr 4 0))(h5:e.get 5=.one (.ptr 5 0))(b0:e.box 5000=some (RB bs j))(b4:e.box 4=some RcZ)(b5:e.box 5=some (RcB r)):
 Ends (zwm bs 11 (i+50)) (Run cx q78c1 e [.fn [(.cell 4 29,29)] [(5000,RB bs i)]]):=by
 obtain⟨q,j1,hq,hj1,c1⟩:=zbk hb (i:=j) (by omega) 3 3 rfl (by omega) (by omega)
 by_cases q0:q=0
 ·subst q0;obtain⟨x,j2,hx,hj2,c2⟩:=zmr hb (i:=j1) (by omega)
  have hap:r.runs.length+1<=zad:=by have:=hr.runs.1;simp[zad];omega
  simp[hsz,h0,h1,h4,h5,b0,b4,b5,c1,hap,c2,-z8f];exact rr0 nm (r:={r with runs:=r.runs++[x]}) (j:=j2) _ ⟨hr.name,hr.ver,hr.lets.up (by omega),hr.builds.up (by omega),hr.runs.more hx,hr.srcs.up (by omega),hr.pcs.up (by omega),hr.steps.up (by omega)⟩ (by omega) (by simp[hsz]) (by simp[h4]) (by simp[h5]) (by simp) (by simp[b4]) (by simp)
 ·have q0':(q==0)=false:=by simpa using q0
  simp[hsz,h0,h1,h4,h5,b0,b4,b5,c1,q0',-z8f];exact rr0 nm (r:=r) (j:=j1) _ (hr.up (by omega)) (by omega) (by simp[hsz]) (by simp[h4]) (by simp[h5]) (by simp) (by simp[b4]) (by simp[b5])
include hb in
theorem rr2(nm:List UInt8)(hnm:nm.length<=100)(hi:i<=10000)(e:Env)(r:Rc)(j:Nat)(hr:RcSm r 9)(hj:j<=i+36)(hsz:e.size=75)(h0:e.get 0=.one (.ptr 5000 0))(h1:e.get 1=.one (.ro (T nm)))(h4:e.get 4=.one (.ptr 4 0))(h5:e.get 5=.one (.ptr 5 0))(b0:e.box 5000=some (RB bs j))(b4:e.box 4=some RcZ)(b5:e.box 5=some (RcB r)):
 Ends (zwm bs 11 (i+50)) (Run cx q78c2 e [.fn [(.cell 4 29,29)] [(5000,RB bs i)]]):=by
 obtain⟨q,j1,hq,hj1,c1⟩:=zbk hb (i:=j) (by omega) 3 3 rfl (by omega) (by omega)
 by_cases q0:q=0
 ·subst q0;obtain⟨x,j2,hx,hj2,c2⟩:=zmr hb (i:=j1) (by omega)
  have hap:r.builds.length+1<=zad:=by have:=hr.builds.1;simp[zad];omega
  simp[hsz,h0,h1,h4,h5,b0,b4,b5,c1,hap,c2,-z8g];exact rr1 hb nm hnm hi (r:={r with builds:=r.builds++[x]}) (j:=j2) _ ⟨hr.name,hr.ver,hr.lets.up (by omega),hr.builds.more hx,hr.runs.up (by omega),hr.srcs.up (by omega),hr.pcs.up (by omega),hr.steps.up (by omega)⟩ (by omega) (by simp[hsz]) (by simp[h0]) (by simp[h1]) (by simp[h4]) (by simp[h5]) (by simp) (by simp[b4]) (by simp)
 ·have q0':(q==0)=false:=by simpa using q0
  simp[hsz,h0,h1,h4,h5,b0,b4,b5,c1,q0',-z8g];exact rr1 hb nm hnm hi (r:=r) (j:=j1) _ (hr.up (by omega)) (by omega) (by simp[hsz]) (by simp[h0]) (by simp[h1]) (by simp[h4]) (by simp[h5]) (by simp) (by simp[b4]) (by simp[b5])
include hb in
theorem rr3(nm:List UInt8)(hnm:nm.length<=100)(hi:i<=10000)(e:Env)(r:Rc)(j:Nat)(hr:RcSm r 8)(hj:j<=i+30)(hsz:e.size=75)(h0:e.get 0=.one (.ptr 5000 0))(h1:e.get 1=.one (.ro (T nm)))(h4:e.get 4=.one (.ptr 4 0))(h5:e.get 5=.one (.ptr 5 0))(b0:e.box 5000=some (RB bs j))(b4:e.box 4=some RcZ)(b5:e.box 5=some (RcB r)):
 Ends (zwm bs 11 (i+50)) (Run cx q78c3 e [.fn [(.cell 4 29,29)] [(5000,RB bs i)]]):=by
 obtain⟨q,j1,hq,hj1,c1⟩:=zbk hb (i:=j) (by omega) 3 3 rfl (by omega) (by omega)
 by_cases q0:q=0
 ·subst q0;obtain⟨x,j2,hx,hj2,c2⟩:=zb0 hb (i:=j1) (by omega) [[108,105,98,47,42,42],[42,42],[98]] (by simp) (by simp)
  simp only[List.map_cons,List.map_nil]at c2
  have hxl:x.length<=200:=by
   clear c2;revert x;decide
  have hms:nm.length+3<=zai:=by simp[zai];omega
  have hap:r.pcs.length+1<=zad:=by have:=hr.pcs.1;simp[zad];omega
  simp[hsz,h0,h1,h4,h5,b0,b4,b5,c1,hap,c2,hms,-z8h];exact rr2 hb nm hnm hi (r:={r with pcs:=r.pcs++[(nm++[108,105,98],x)]}) (j:=j2) _ ⟨hr.name,hr.ver,hr.lets.up (by omega),hr.builds.up (by omega),hr.runs.up (by omega),hr.srcs.up (by omega),hr.pcs.more ⟨by simp;omega,hxl⟩,hr.steps.up (by omega)⟩ (by omega) (by simp[hsz]) (by simp[h0]) (by simp[h1]) (by simp[h4]) (by simp[h5]) (by simp) (by simp[b4]) (by simp)
 ·have q0':(q==0)=false:=by simpa using q0
  simp[hsz,h0,h1,h4,h5,b0,b4,b5,c1,q0',-z8h];exact rr2 hb nm hnm hi (r:=r) (j:=j1) _ (hr.up (by omega)) (by omega) (by simp[hsz]) (by simp[h0]) (by simp[h1]) (by simp[h4]) (by simp[h5]) (by simp) (by simp[b4]) (by simp[b5])
include hb in
theorem rr4(nm:List UInt8)(hnm:nm.length<=100)(hi:i<=10000)(e:Env)(r:Rc)(j:Nat)(hr:RcSm r 7)(hj:j<=i+24)(hsz:e.size=75)(h0:e.get 0=.one (.ptr 5000 0))(h1:e.get 1=.one (.ro (T nm)))(h4:e.get 4=.one (.ptr 4 0))(h5:e.get 5=.one (.ptr 5 0))(b0:e.box 5000=some (RB bs j))(b4:e.box 4=some RcZ)(b5:e.box 5=some (RcB r)):
 Ends (zwm bs 11 (i+50)) (Run cx q78c4 e [.fn [(.cell 4 29,29)] [(5000,RB bs i)]]):=by
 obtain⟨q,j1,hq,hj1,c1⟩:=zbk hb (i:=j) (by omega) 2 2 rfl (by omega) (by omega)
 by_cases q0:q=0
 ·subst q0;obtain⟨x,j2,hx,hj2,c2⟩:=zb0 hb (i:=j1) (by omega) [[100,111,99,47,42,42],[42,42,47,99],[97,47,42]] (by simp) (by simp)
  simp only[List.map_cons,List.map_nil]at c2
  have hxl:x.length<=200:=by
   clear c2;revert x;decide
  have hms:nm.length+3<=zai:=by simp[zai];omega
  have hap:r.pcs.length+1<=zad:=by have:=hr.pcs.1;simp[zad];omega
  simp[hsz,h0,h1,h4,h5,b0,b4,b5,c1,hap,c2,hms,-z8i];exact rr3 hb nm hnm hi (r:={r with pcs:=r.pcs++[(nm++[100,111,99],x)]}) (j:=j2) _ ⟨hr.name,hr.ver,hr.lets.up (by omega),hr.builds.up (by omega),hr.runs.up (by omega),hr.srcs.up (by omega),hr.pcs.more ⟨by simp;omega,hxl⟩,hr.steps.up (by omega)⟩ (by omega) (by simp[hsz]) (by simp[h0]) (by simp[h1]) (by simp[h4]) (by simp[h5]) (by simp) (by simp[b4]) (by simp)
 ·have q0':(q==0)=false:=by simpa using q0
  simp[hsz,h0,h1,h4,h5,b0,b4,b5,c1,q0',-z8i];exact rr3 hb nm hnm hi (r:=r) (j:=j1) _ (hr.up (by omega)) (by omega) (by simp[hsz]) (by simp[h0]) (by simp[h1]) (by simp[h4]) (by simp[h5]) (by simp) (by simp[b4]) (by simp[b5])
include hb in
set_option maxRecDepth 4000 in
theorem zp0(nm:List UInt8)(hnm:nm.length<=100)(hi:i<=10000):Ends (zwm bs 11 (i+50)) (C Fn78 [.ptr 5000 0,.ro (T nm)] [(5000,RB bs i)]):=by
 refine zcu Tryz.func78 Cv78 rfl ?_;obtain⟨v,j1,hv,hj1,c1⟩:=zjo hb (i:=i) (by omega)
 obtain⟨_,⟨st,j2,hst,hj2,rfl⟩,c2⟩:=z3e hb (i:=j1) (by omega)
 obtain⟨le,j3,hle,hj3,c3⟩:=z6p hb (i:=j2) (by omega)
 obtain⟨q,j4,hq,hj4,c4⟩:=zbk hb (i:=j3) (by omega) 2 2 rfl (by omega) (by omega)
 by_cases q0:q=0
 ·subst q0;obtain⟨x,j5,hx,hj5,c5⟩:=z6a hb (i:=j4) (by omega)
  obtain⟨s,hs,c6⟩:=z92 x (by omega)
  simp[c1,c2,c3,c4,c5,c6,-z8j];exact rr4 hb nm hnm hi (r:=⟨nm,v,le,[],[],[([115,114,99],s)],[],st⟩) (j:=j5) _ ⟨by simp only;omega,by simp only;omega,hle.up (by omega),⟨by simp,by simp⟩,⟨by simp,by simp⟩,⟨by simp,by simp;omega⟩,⟨by simp,by simp⟩,hst.up (by omega)⟩ (by omega) (by simp) (by simp) (by simp) (by simp) (by simp) (by simp) (by simp) (by simp)
 ·have q0':(q==0)=false:=by simpa using q0
  simp[c1,c2,c3,c4,q0',-z8j];exact rr4 hb nm hnm hi (r:=⟨nm,v,le,[],[],[],[],st⟩) (j:=j4) _ ⟨by simp only;omega,by simp only;omega,hle.up (by omega),⟨by simp,by simp⟩,⟨by simp,by simp⟩,⟨by simp,by simp⟩,⟨by simp,by simp⟩,hst.up (by omega)⟩ (by omega) (by simp) (by simp) (by simp) (by simp) (by simp) (by simp) (by simp) (by simp)
end
end Go.Qz
namespace Go.Qz
open Go.Proofs
section
variable{bs:List Int}(hb:Seed bs){i:Nat}
include hb
set_option maxRecDepth 4000 in
theorem zq8(hi:i<=1000):Ends (zwm bs 13 (i+80)) (C Fn33 [.ptr 5000 0] [(5000,RB bs i)]):=by
 refine zcu Tryz.func33 Cv33 rfl ?_;obtain⟨nm,j0,hnm,hj0,c0⟩:=zb0 hb (i:=i) (by omega) [[111,110,101],[116,119,111],[122,105,112]] (by simp) (by simp)
 simp only[List.map_cons,List.map_nil]at c0
 have hnl:nm.length<=100:=by
  clear c0;revert nm;decide
 obtain⟨_,⟨r,j1,hr,hj1,rfl⟩,c1⟩:=zp0 hb nm hnl (i:=j0) (by omega)
 obtain⟨q,j2,hq,hj2,c2⟩:=zbk hb (i:=j1) (by omega) 16 16 rfl (by omega) (by omega)
 by_cases q0:q=0
 ·subst q0;obtain⟨x,j3,hx,hj3,c3⟩:=zb0 hb (i:=j2) (by omega) [[],[57],[101,108,101,118,101,110,108,101,116,116,101]] (by simp) (by simp)
  simp only[List.map_cons,List.map_nil]at c3
  have hxl:x.length<=200:=by
   clear c3;revert x;decide
  simp[c0,c1,c2,c3];exact .of ⟨{r with name:=x},j3,⟨hxl,hr.ver,hr.lets.up (by omega),hr.builds.up (by omega),hr.runs.up (by omega),hr.srcs.up (by omega),hr.pcs.up (by omega),hr.steps.up (by omega)⟩,by omega,by simp⟩
 by_cases q1:q=1
 ·subst q1;obtain⟨x,j3,hx,hj3,c3⟩:=zi1 hb (i:=j2) (by omega)
  simp[c0,c1,c2,c3];exact .of ⟨{r with ver:=x},j3,⟨hr.name,by simp only;omega,hr.lets.up (by omega),hr.builds.up (by omega),hr.runs.up (by omega),hr.srcs.up (by omega),hr.pcs.up (by omega),hr.steps.up (by omega)⟩,by omega,by simp⟩
 by_cases q2:q=2
 ·subst q2;obtain⟨x,j3,hx,hj3,c3⟩:=zb0 hb (i:=j2) (by omega) [[110,97,109,101],[100,105,114],[122]] (by simp) (by simp)
  simp only[List.map_cons,List.map_nil]at c3
  have hxl:x.length<=200:=by
   clear c3;revert x;decide
  obtain⟨y,j4,hy,hj4,c4⟩:=zb0 hb (i:=j3) (by omega) [[36,123,122,125],[113],[]] (by simp) (by simp)
  simp only[List.map_cons,List.map_nil]at c4
  have hyl:y.length<=200:=by
   clear c4;revert y;decide
  have hap:r.lets.length+1<=zad:=by have:=hr.lets.1;simp[zad];omega
  simp[c0,c1,c2,c3,c4,hap];exact .of ⟨{r with lets:=r.lets++[(x,y)]},j4,⟨hr.name,hr.ver,(hr.lets.more ⟨hxl,hyl⟩).up (by omega),hr.builds.up (by omega),hr.runs.up (by omega),hr.srcs.up (by omega),hr.pcs.up (by omega),hr.steps.up (by omega)⟩,by omega,by simp⟩
 by_cases q3:q=3
 ·subst q3;obtain⟨x,j3,hx,hj3,c3⟩:=zb0 hb (i:=j2) (by omega) [[36,123,110,111,110,101,125],[],[1],[100,114,111,112,32,36,123,100,105,114,125]] (by simp) (by simp)
  simp only[List.map_cons,List.map_nil]at c3
  have hxl:x.length<=200:=by
   clear c3;revert x;decide
  have hap:r.steps.length+1<=zad:=by have:=hr.steps.1;simp[zad];omega
  simp[c0,c1,c2,c3,hap];exact .of ⟨{r with steps:=r.steps++[x]},j3,⟨hr.name,hr.ver,hr.lets.up (by omega),hr.builds.up (by omega),hr.runs.up (by omega),hr.srcs.up (by omega),hr.pcs.up (by omega),(hr.steps.more hxl).up (by omega)⟩,by omega,by simp⟩
 by_cases q4:q=4
 ·subst q4;obtain⟨x,j3,hx,hj3,c3⟩:=zwe hb (i:=j2) (by omega)
  obtain⟨y,j4,hy,hj4,c4⟩:=zmr hb (i:=j3) (by omega)
  have hap:r.runs.length+2<=zad:=by have:=hr.runs.1;simp[zad];omega
  simp[c0,c1,c2,c3,c4,hap];exact .of ⟨{r with runs:=r.runs++[x,y]},j4,⟨hr.name,hr.ver,hr.lets.up (by omega),hr.builds.up (by omega),by rw[show r.runs++[x,y]=(r.runs++[x])++[y] by simp];exact(hr.runs.more hx).more hy,hr.srcs.up (by omega),hr.pcs.up (by omega),hr.steps.up (by omega)⟩,by omega,by simp⟩
 by_cases q5:q=5
 ·subst q5;obtain⟨x,j3,hx,hj3,c3⟩:=zb0 hb (i:=j2) (by omega) [[115,114,99],[]] (by simp) (by simp)
  simp only[List.map_cons,List.map_nil]at c3
  have hxl:x.length<=200:=by
   clear c3;revert x;decide
  obtain⟨y,j4,hy,hj4,c4⟩:=zb0 hb (i:=j3) (by omega) [[],[48,49,50,51,52,53,54,55,56,57,97,98,99,100,101,102]] (by simp) (by simp)
  simp only[List.map_cons,List.map_nil]at c4
  have hyl:y.length<=200:=by
   clear c4;revert y;decide
  have hap:r.srcs.length+1<=zad:=by have:=hr.srcs.1;simp[zad];omega
  simp[c0,c1,c2,c3,c4,hap];exact .of ⟨{r with srcs:=r.srcs++[(x,y)]},j4,⟨hr.name,hr.ver,hr.lets.up (by omega),hr.builds.up (by omega),hr.runs.up (by omega),(hr.srcs.more ⟨hxl,hyl⟩).up (by omega),hr.pcs.up (by omega),hr.steps.up (by omega)⟩,by omega,by simp⟩
 by_cases q6:q=6
 ·subst q6;obtain⟨x,j3,hx,hj3,c3⟩:=zb0 hb (i:=j2) (by omega) [[111,110,101],[112],[]] (by simp) (by simp)
  simp only[List.map_cons,List.map_nil]at c3
  have hxl:x.length<=200:=by
   clear c3;revert x;decide
  obtain⟨y,j4,hy,hj4,c4⟩:=zwd hb (i:=j3) (by omega)
  have hap:r.pcs.length+1<=zad:=by have:=hr.pcs.1;simp[zad];omega
  simp[c0,c1,c2,c3,c4,hap];exact .of ⟨{r with pcs:=r.pcs++[(x,y)]},j4,⟨hr.name,hr.ver,hr.lets.up (by omega),hr.builds.up (by omega),hr.runs.up (by omega),hr.srcs.up (by omega),(hr.pcs.more ⟨hxl,by simp only;omega⟩).up (by omega),hr.steps.up (by omega)⟩,by omega,by simp⟩
 have b0:(q==0)=false:=by simpa using q0
 have b1:(q==1)=false:=by simpa using q1
 have b2:(q==2)=false:=by simpa using q2
 have b3:(q==3)=false:=by simpa using q3
 have b4:(q==4)=false:=by simpa using q4
 have b5:(q==5)=false:=by simpa using q5
 have b6:(q==6)=false:=by simpa using q6
 simp[c0,c1,c2,b0,b1,b2,b3,b4,b5,b6];exact .of ⟨r,j2,hr.up (by omega),by omega,by simp⟩
end
end Go.Qz
namespace Go.Qz
open Go.Proofs
theorem ztx(xs:zaz)(hn:xs.length<=1048576):C Fn16 [.ro (SS xs),.ro (SS xs)] []=some (.one (.ro (.bool true)),[]):=by
 refine zaf Tryz.func16 Cv16 rfl ?_;simp
 refine zak (λm e=> ∃i,m=xs.length-i/\i<=xs.length/\e.size=26/\e.get 0=.one (.ro (SS xs))/\e.get 1=.one (.ro (SS xs))/\e.get 5=.one (.ro (N i)))
  ?_ xs.length _ ⟨0,rfl,Nat.zero_le _,by simp,by simp,by simp,by simp⟩
 rintro m e ⟨i,rfl,hi,hsz,h0,h1,h5⟩ ih;rcases Nat.lt_or_ge i xs.length with hlt|hge
 ·have hwi:IntKind.i64.wrap ((i:Int)+1)=((i+1:Nat):Int):=zae (by omega)
  simp[hsz,h0,h1,h5,hlt,hwi];exact ih _ _ (by omega) ⟨i+1,rfl,by omega,by simp[hsz],by simp[h0],by simp[h1],by simp⟩
 ·obtain rfl:i=xs.length:=by omega
  simp[hsz,h0,h5]
end Go.Qz
namespace Go.Qz
open Go.Proofs
theorem z6y(r:Rc):(r.srcs.all zjp&&(r.pcs.all pcOk&&(r.steps.all zcf&&((decide (r.lets.length<=6)&&decide (r.srcs.length<=6)&&decide (r.pcs.length<=6)&&decide (r.steps.length<=10))&&
 (za2 r.name&&zfg r.ver&&zhd r.lets&&(r.builds.all za7&&decide (r.builds.length<=6))&&(r.runs.all za7&&decide (r.runs.length<=6)))))))=zd9 r:=by
 unfold zd9 zhd;rw[Bool.eq_iff_iff];simp only[Bool.and_eq_true,decide_eq_true_eq];constructor
 ·rintro⟨a1,a2,a3,⟨⟨⟨a4,a5⟩,a6⟩,a7⟩,⟨⟨⟨b1,b2⟩,b3,b4⟩,b5,b6⟩,b7,b8⟩;exact⟨⟨⟨⟨b1,b2⟩,a7⟩,⟨⟨⟨a4,b6⟩,b8⟩,a5⟩,a6⟩,⟨⟨⟨⟨b3,b5⟩,b7⟩,a1⟩,a2⟩,a3⟩
 ·rintro⟨⟨⟨⟨b1,b2⟩,a7⟩,⟨⟨⟨a4,b6⟩,b8⟩,a5⟩,a6⟩,⟨⟨⟨⟨b3,b5⟩,b7⟩,a1⟩,a2⟩,a3⟩;exact⟨a1,a2,a3,⟨⟨⟨a4,a5⟩,a6⟩,a7⟩,⟨⟨⟨b1,b2⟩,b3,by omega⟩,b5,b6⟩,b7,b8⟩
abbrev RB1(r:Rc):List A:=[.ro (T r.name),.ro (T r.ver),.ro (FS r.lets),.ro (NeS r.builds),.ro (NeS r.runs),.ro (FS r.srcs),.ro (FS r.pcs),.ro (SS r.steps)]
set_option maxHeartbeats 4000000 in
theorem z3u(r:Rc)(h:RcSz r):C Fn38 [.ro (RcD r)] []=some (.one (.ro (.bool (zd9 r))),[]):=by
 refine zaf Tryz.func38 Cv38 rfl ?_;rw[<-z6y];have h1:=zh2 r.name (by have:=h.name;omega)
 rw[zkk]at h1;have h2:=zkn r.ver h.ver;have h3:=z3j r.lets (by have:=h.lets;omega) (λf hf=>⟨by have:=(h.letz f hf).1;omega,by have:=(h.letz f hf).2;omega⟩)
 have h4:=zpu r.builds h.bld h.builds;have h5:=zpu r.runs h.run h.runs
 have hsrc:∀i (hi:i<r.srcs.length),C ydo [.ro (T r.srcs[i].1)] []=some (.one (.ro (.bool (zh3 r.srcs[i].1))),[])/\C ydp [.ro (T r.srcs[i].2)] []=some (.one (.ro (.bool (zq6 r.srcs[i].2))),[]):=λi hi=>by
  have:=h.src _ (List.getElem_mem hi);exact⟨z3b _ (by have:=this.1;omega),z6w _ this.2⟩
 have hpc:∀i (hi:i<r.pcs.length),C ydq [.ro (T r.pcs[i].1)] []=some (.one (.ro (.bool (za2 r.pcs[i].1))),[])/\C ydr [.ro (T r.pcs[i].2)] []=some (.one (.ro (.bool (zh4 r.pcs[i].2))),[]):=λi hi=>by
  have:=h.pc _ (List.getElem_mem hi);have k:=zh2 r.pcs[i].1 (by have:=this.1;omega)
  rw[zkk]at k;exact⟨k,zzq _ this.2⟩
 have hst:∀i (hi:i<r.steps.length),C yds [.ro (T r.steps[i])] []=some (.one (.ro (.bool (zcf r.steps[i]))),[]):=λi hi=>zpv _ (by have:=h.step _ (List.getElem_mem hi);omega)
 have g1:=h.srcs;have g2:=h.pcs;have g3:=h.steps
 have rend:r.srcs.all zjp=true->r.pcs.all pcOk=true->r.steps.all zcf=true-> ∀e:Env,e.size=119->e.get 1=.one (.ptr 1 0)->e.box 1=some (RB1 r)->
  Run cx q38c6 e [.fn [(.tmp 2,4)] []]=some (.one (.ro (.bool ((decide (r.lets.length<=6)&&decide (r.srcs.length<=6)&&decide (r.pcs.length<=6)&&decide (r.steps.length<=10))&&
   (za2 r.name&&zfg r.ver&&zhd r.lets&&(r.builds.all za7&&decide (r.builds.length<=6))&&(r.runs.all za7&&decide (r.runs.length<=6)))))),[]):=by
  intro _ _ _ e hsz e1 b1;generalize (r.builds.all za7&&decide (r.builds.length<=6))=c4 at *;generalize (r.runs.all za7&&decide (r.runs.length<=6))=c5 at *;generalize zhd r.lets=c3 at *;generalize za2 r.name=c1 at *;generalize zfg r.ver=c2 at *;by_cases m1:r.lets.length<=6
  ·by_cases m2:r.srcs.length<=6
   ·by_cases m3:r.pcs.length<=6
    ·by_cases m4:r.steps.length<=10
     ·cases c1
      ·simp[hsz,e1,b1,m1,m2,m3,m4,h1]
      cases c2
      ·simp[hsz,e1,b1,m1,m2,m3,m4,h1,h2]
      cases c3
      ·simp[hsz,e1,b1,m1,m2,m3,m4,h1,h2,h3]
      cases c4
      ·simp[hsz,e1,b1,m1,m2,m3,m4,h1,h2,h3,h4]
      simp[hsz,e1,b1,m1,m2,m3,m4,h1,h2,h3,h4,h5]
     ·simp[hsz,e1,b1,m1,m2,m3,m4]
    ·simp[hsz,e1,b1,m1,m2,m3]
   ·simp[hsz,e1,b1,m1,m2]
  ·simp[hsz,e1,b1,m1]
 generalize ((decide (r.lets.length<=6)&&decide (r.srcs.length<=6)&&decide (r.pcs.length<=6)&&decide (r.steps.length<=10))&&
  (za2 r.name&&zfg r.ver&&zhd r.lets&&(r.builds.all za7&&decide (r.builds.length<=6))&&(r.runs.all za7&&decide (r.runs.length<=6))))=last at *
 have r3:r.srcs.all zjp=true->r.pcs.all pcOk=true-> ∀e:Env,e.size=119->e.get 1=.one (.ptr 1 0)->e.box 1=some (RB1 r)->
  Run cx q38c7 e [.fn [(.tmp 2,4)] []]=some (.one (.ro (.bool (r.steps.all zcf&&last))),[]):=by
  intro q1 q2 e hsz e1 b1;simp[hsz,-z8c]
  refine zak (λm e=> ∃i,m=r.steps.length-i/\i<=r.steps.length/\e.size=119/\e.get 1=.one (.ptr 1 0)/\e.box 1=some (RB1 r)/\e.get 5=.one (.ro (N i))/\(r.steps.drop i).all zcf=r.steps.all zcf)
   ?_ r.steps.length _ ⟨0,rfl,Nat.zero_le _,by simp[hsz],by simp[e1],by simp[b1],by simp,rfl⟩
  rintro m e ⟨i,rfl,hi,hsz,e1,b1,h5,hr⟩ ih;rcases Nat.lt_or_ge i r.steps.length with hlt|hge
  ·have hd:r.steps.drop i=r.steps[i]::r.steps.drop (i+1):=List.drop_eq_getElem_cons hlt;have hwi:IntKind.i64.wrap ((i:Int)+1)=((i+1:Nat):Int):=zae (by omega)
   have hev:=hst i hlt;rw[hd,List.all_cons]at hr
   cases hp:zcf r.steps[i]with
   |false=>
    rw[hp]at hr hev;simp[hsz,e1,b1,h5,hlt,hev,<-hr]
   |true=>
    rw[hp]at hr hev;rw[Bool.true_and]at hr;simp[hsz,e1,b1,h5,hlt,hev,hwi];exact ih _ _ (by omega) ⟨i+1,rfl,by omega,by simp[hsz],by simp[e1],by simp[b1],by simp,hr⟩
  ·obtain rfl:i=r.steps.length:=by omega
   rw[List.drop_length,List.all_nil]at hr;simp[hsz,e1,b1,h5,-z8c];rw[<-hr,Bool.true_and];exact rend q1 q2 hr.symm _ (by simp[hsz]) (by simp[e1]) (by simp[b1])
 have r2:r.srcs.all zjp=true-> ∀e:Env,e.size=119->e.get 1=.one (.ptr 1 0)->e.box 1=some (RB1 r)->
  Run cx q38c8 e [.fn [(.tmp 2,4)] []]=some (.one (.ro (.bool (r.pcs.all pcOk&&(r.steps.all zcf&&last)))),[]):=by
  intro q1 e hsz e1 b1;simp[hsz,-z8d]
  refine zak (λm e=> ∃i,m=r.pcs.length-i/\i<=r.pcs.length/\e.size=119/\e.get 1=.one (.ptr 1 0)/\e.box 1=some (RB1 r)/\e.get 4=.one (.ro (N i))/\(r.pcs.drop i).all pcOk=r.pcs.all pcOk)
   ?_ r.pcs.length _ ⟨0,rfl,Nat.zero_le _,by simp[hsz],by simp[e1],by simp[b1],by simp,rfl⟩
  rintro m e ⟨i,rfl,hi,hsz,e1,b1,h5,hr⟩ ih;rcases Nat.lt_or_ge i r.pcs.length with hlt|hge
  ·have hd:r.pcs.drop i=r.pcs[i]::r.pcs.drop (i+1):=List.drop_eq_getElem_cons hlt;have hwi:IntKind.i64.wrap ((i:Int)+1)=((i+1:Nat):Int):=zae (by omega)
   obtain⟨v1,v2⟩:=hpc i hlt;have hx:pcOk r.pcs[i]=(za2 r.pcs[i].1&&zh4 r.pcs[i].2):=rfl;rw[hd,List.all_cons,hx]at hr
   cases p1:za2 r.pcs[i].1 with
   |false=>
    rw[p1]at hr v1;simp[hsz,e1,b1,h5,hlt,v1,<-hr]
   |true=>
    cases p2:zh4 r.pcs[i].2 with
    |false=>
     rw[p1,p2]at hr;rw[p1]at v1;rw[p2]at v2;simp[hsz,e1,b1,h5,hlt,v1,v2,<-hr]
    |true=>
     rw[p1,p2,Bool.and_self,Bool.true_and]at hr;rw[p1]at v1;rw[p2]at v2;simp[hsz,e1,b1,h5,hlt,v1,v2,hwi];exact ih _ _ (by omega) ⟨i+1,rfl,by omega,by simp[hsz],by simp[e1],by simp[b1],by simp,hr⟩
  ·obtain rfl:i=r.pcs.length:=by omega
   rw[List.drop_length,List.all_nil]at hr;simp[hsz,e1,b1,h5,-z8d];rw[<-hr,Bool.true_and];exact r3 q1 hr.symm _ (by simp[hsz]) (by simp[e1]) (by simp[b1])
 simp[-z8e]
 refine zak (λm e=> ∃i,m=r.srcs.length-i/\i<=r.srcs.length/\e.size=119/\e.get 1=.one (.ptr 1 0)/\e.box 1=some (RB1 r)/\e.get 3=.one (.ro (N i))/\(r.srcs.drop i).all zjp=r.srcs.all zjp)
  ?_ r.srcs.length _ ⟨0,rfl,Nat.zero_le _,by simp,by simp,by simp,by simp,rfl⟩
 rintro m e ⟨i,rfl,hi,hsz,e1,b1,h5,hr⟩ ih;rcases Nat.lt_or_ge i r.srcs.length with hlt|hge
 ·have hd:r.srcs.drop i=r.srcs[i]::r.srcs.drop (i+1):=List.drop_eq_getElem_cons hlt;have hwi:IntKind.i64.wrap ((i:Int)+1)=((i+1:Nat):Int):=zae (by omega)
  obtain⟨v1,v2⟩:=hsrc i hlt;have hx:zjp r.srcs[i]=(zh3 r.srcs[i].1&&zq6 r.srcs[i].2):=rfl;rw[hd,List.all_cons,hx]at hr
  cases p1:zh3 r.srcs[i].1 with
  |false=>
   rw[p1]at hr v1;simp[hsz,e1,b1,h5,hlt,v1,<-hr]
  |true=>
   cases p2:zq6 r.srcs[i].2 with
   |false=>
    rw[p1,p2]at hr;rw[p1]at v1;rw[p2]at v2;simp[hsz,e1,b1,h5,hlt,v1,v2,<-hr]
   |true=>
    rw[p1,p2,Bool.and_self,Bool.true_and]at hr;rw[p1]at v1;rw[p2]at v2;simp[hsz,e1,b1,h5,hlt,v1,v2,hwi];exact ih _ _ (by omega) ⟨i+1,rfl,by omega,by simp[hsz],by simp[e1],by simp[b1],by simp,hr⟩
 ·obtain rfl:i=r.srcs.length:=by omega
  rw[List.drop_length,List.all_nil]at hr;simp[hsz,e1,b1,h5,-z8e];rw[<-hr,Bool.true_and];exact r2 hr.symm _ (by simp[hsz]) (by simp[e1]) (by simp[b1])
end Go.Qz
