import Derived.Test.YtddfkpkieamlpaaGreatDoorQYd0
import Derived.Test.YtddfkpkieamlpaaGreatDoorQq0
import Derived.Test.YtddfkpkieamlpaaGreatDoorQz0
namespace Go.Qz
open Go.Proofs
end Go.Qz
namespace Go.Qz
open Go.Proofs
end Go.Qz
namespace Go.Qz
open Go.Proofs
theorem zxz{e:En}(_:zho e=true)(_:enSz e):zpm e=(if e.kind==1 then 100::105::114::32::(Lib.decDigits e.mode.toNat++32::(e.path++[10]))
 else if e.kind==3 then 108::105::110::107::32::(e.path++32::(e.text++[10]))
 else(102::105::108::101::32::(Lib.decDigits e.mode.toNat++32::(e.path++32::(Lib.decDigits e.text.length++[10]))))++(e.text++[10])):=by
 unfold zpm;split
 ·simp
 ·split
  ·simp
  ·simp
theorem z4o{e:En}(h:zho e=true):e.kind=1∨e.kind=2∨e.kind=3:=by
 unfold zho at h;simp only[Bool.and_eq_true]at h;have h:=h.2.2.2
 cases k1:e.kind==1 with
 |true=>exact .inl (by simpa using k1)
 |false=>
  rw[k1]at h
  cases k2:e.kind==2 with
  |true=>exact .inr (.inl (by simpa using k2))
  |false=>
   rw[k2]at h
   cases k3:e.kind==3 with
   |true=>exact .inr (.inr (by simpa using k3))
   |false=>rw[k3]at h;simp at h
set_option maxHeartbeats 2000000 in
set_option maxRecDepth 4000 in
theorem zr6(es:List En)(hb:∀e∈es,enSz e)(hn:es.length<=1000):C Fn81 [.ro (ES es)] []=some (.one (.ro (T (if zc2 es then zbx es else []))),[]):=by
 refine zad Tryz.func81 Cv81 rfl ?_;have hok:=zog es hb (by omega)
 cases ho:zc2 es with
 |false=>rw[ho]at hok;simp[hok]
 |true=>
  rw[ho]at hok;have hent:=(zbo ho).2;have htot:=zd6 es (λe he=>⟨hb e he,zd7 (hent e he)⟩)
  have htot2:es.length*2097252<=1000*2097252:=Nat.mul_le_mul_right _ hn;simp[hok]
  refine zam (λm e=> ∃i l a0,m=es.length-i/\i<=es.length/\e.size=64/\e.get 3=.one (.ptr 3 0)/\e.box 3=some [a0,.own (.bs 5 ⟨l.toArray⟩)]/\(a0=.bnil 108∨a0=.selfp)/\e.get 10=.one (.ro (ES es))/\e.get 11=.one (.ro (N es.length))/\e.get 12=.one (.ro (N i))/\l++zbx (es.drop i)=zbx es)
   ?_ es.length _ ⟨0,[],.bnil 108,rfl,Nat.zero_le _,by simp,by simp,by simp;rfl,.inl rfl,by simp,by simp,by simp,rfl⟩
  rintro m e ⟨i,l,a0,rfl,hi,hsz,h3,hb3,ha0,h10,h11,h12,hr⟩ ih;rcases Nat.lt_or_ge i es.length with hlt|hge
  ·have hwi:IntKind.i64.wrap ((i:Int)+1)=((i+1:Nat):Int):=zah (by omega)
   have hd:es.drop i=es[i]::es.drop (i+1):=List.drop_eq_getElem_cons hlt;have hmem:=List.getElem_mem hlt;have hszi:=hb _ hmem;have hm:=zd7 (hent _ hmem);have hkind:=z4o (hent _ hmem);rw[hd,zbx,zxz (hent _ hmem) hszi]at hr;have hlen:=congrArg List.length hr;simp only[List.length_append]at hlen;have e1:=zvq es[i].mode hm.1 (by have:=hm.2;omega)
   have e2:=z4j es[i].text.length (by have:=hszi.2;omega)
   have g1:=hszi.1;have g2:=hszi.2;have g3:=dec7 es[i].mode.toNat (by have:=hm.2;omega)
   have g4:=dec7 es[i].text.length (by omega)
   generalize Lib.decDigits es[i].mode.toNat=dm at *;generalize Lib.decDigits es[i].text.length=dt at *;have hll:l.length<=2097252000:=by omega
   generalize hp:es[i].path=p at *;generalize ht:es[i].text=t at *;rcases hkind with k|k|k
   ·have k1:(es[i].kind==1)=true:=by simpa using k
    rw[if_pos k1]at hr;have w:=zhl ha0 l (100::105::114::32::(dm++32::(p++[10]))) (by simp[zaf];omega)
    have z0:4+dm.length<=zag:=by unfold zag;omega
    have z1:dm.length+1+1+1+1+1<=zag:=by unfold zag;omega
    have z2:dm.length+1+1+1+1+1+p.length<=zag:=by unfold zag;omega
    have z3:dm.length+(p.length+1)+1+1+1+1+1<=zag:=by unfold zag;omega
    rcases ha0 with rfl|rfl
    all_goals
     simp[hsz,h3,hb3,h10,h11,h12,hlt,hwi,k,hp,ht,e1,w,z0,z1,z2,z3];exact ih _ _ (by omega) ⟨i+1,_,.selfp,rfl,by omega,by simp[hsz],by simp[h3],by simp;rfl,.inr rfl,by simp[h10],by simp[h11],by simp,by rw[<-hr];simp⟩
   ·have k1:(es[i].kind==1)=false:=by rw[k];rfl
    have k3:(es[i].kind==3)=false:=by rw[k];rfl
    rw[if_neg (by rw[k1];simp),if_neg (by rw[k3];simp)]at hr
    have w:=zhl ha0 l (102::105::108::101::32::(dm++32::(p++32::(dt++[10])))) (by simp[zaf];omega)
    have w2:=zr1 (l++102::105::108::101::32::(dm++32::(p++32::(dt++[10])))) (t++[10]) (by simp[zaf];omega)
    have z0:5+dm.length<=zag:=by unfold zag;omega
    have z1:dm.length+1+1+1+1+1+1<=zag:=by unfold zag;omega
    have z2:dm.length+1+1+1+1+1+1+p.length<=zag:=by unfold zag;omega
    have z3:dm.length+(p.length+1)+1+1+1+1+1+1<=zag:=by unfold zag;omega
    have z4:dm.length+(p.length+1+1)+1+1+1+1+1+dt.length<=zag:=by unfold zag;omega
    have z5:dm.length+(p.length+(dt.length+1)+1)+1+1+1+1+1+1<=zag:=by unfold zag;omega
    have z6:t.length+1<=zag:=by unfold zag;omega
    rcases ha0 with rfl|rfl
    all_goals
     simp[hsz,h3,hb3,h10,h11,h12,hlt,hwi,k,hp,ht,e1,e2,w,w2,z0,z1,z2,z3,z4,z5,z6];exact ih _ _ (by omega) ⟨i+1,_,.selfp,rfl,by omega,by simp[hsz],by simp[h3],by simp;rfl,.inr rfl,by simp[h10],by simp[h11],by simp,by rw[<-hr];simp⟩
   ·have k1:(es[i].kind==1)=false:=by rw[k];rfl
    have k2:(es[i].kind==2)=false:=by rw[k];rfl
    have k3:(es[i].kind==3)=true:=by rw[k];rfl
    rw[if_neg (by rw[k1];simp),if_pos k3]at hr
    have w:=zhl ha0 l (108::105::110::107::32::(p++32::(t++[10]))) (by simp[zaf];omega)
    have z0:5+p.length<=zag:=by unfold zag;omega
    have z1:p.length+1+1+1+1+1+1<=zag:=by unfold zag;omega
    have z2:p.length+1+1+1+1+1+1+t.length<=zag:=by unfold zag;omega
    have z3:p.length+(t.length+1)+1+1+1+1+1+1<=zag:=by unfold zag;omega
    rcases ha0 with rfl|rfl
    all_goals
     simp[hsz,h3,hb3,h10,h11,h12,hlt,hwi,k,hp,ht,e1,w,z0,z1,z2,z3];exact ih _ _ (by omega) ⟨i+1,_,.selfp,rfl,by omega,by simp[hsz],by simp[h3],by simp;rfl,.inr rfl,by simp[h10],by simp[h11],by simp,by rw[<-hr];simp⟩
  ·obtain rfl:i=es.length:=by omega
   rw[List.drop_length]at hr;simp[zbx]at hr;subst hr;have e4:=zub a0 (zbx es);rcases ha0 with rfl|rfl<;>simp[hsz,h3,hb3,h11,h12,e4]
end Go.Qz
namespace Go.Qz
open Go.Proofs
abbrev WS(xs:List (BitVec 32)):D:=.sl 1 (xs.map W)
abbrev Y8(b:UInt8):D:=.int .u8 (b.toNat:Int)
abbrev YS(b:List UInt8):D:=.sl 1 (b.map Y8)
@[simp] theorem ydn(xs:List (BitVec 32)):flats (xs.map W)=true:=by
  induction xs with
  |nil=>rfl
  |cons a r ih=>simp[flats,D.flat,ih]
theorem ydo(v:BitVec 32)(n:Nat)(h0:n<=32):C z79 [.ro (W v),.ro (N n)] []=some (.one (.ro (W (rotr v n))),[]):=by
 refine zad Tryz.func195 yc5 rfl ?_;have w1:IntKind.i64.wrap (32-(n:Int))=((32-n:Nat):Int):=by rw[wrap64 (by omega) (by omega)];omega
 simp[w1,rotr]
theorem znc(v:BitVec 32)(m:Int)(n:Nat)(h:m=n)(h0:n<=32):C z79 [.ro (W v),.ro (I m)] []=some (.one (.ro (W (rotr v n))),[]):=by
 subst h;exact ydo v n h0
theorem z6k:C yc1 [] []=some (.one (.own (WS kL)),[]):=by
 refine zad Tryz.func194 yc3 rfl ?_;simp[kL,wn]
theorem zmx{b:List UInt8}{i:Nat}{ws:List (BitVec 32)}(h:za3 b i=ws)(hi:16<=i):za3 b (i+1)=ws++[wnew ws i]:=by
 rw[za3,h,if_neg (by omega)]
set_option maxHeartbeats 4000000 in
theorem z8j(b:List UInt8)(hb:b.length=64):C ycy [.ro (YS b)] []=some (.one (.own (WS (za3 b 64))),[]):=by
 refine zad Tryz.func193 yc0 rfl ?_
 have go:∀e:Env,e.size=100->e.get 3=.one (.own (WS (za3 b 16)))->Run cx q193c5 e [.fn [(.tmp 2,119)] []]=some (.one (.own (WS (za3 b 64))),[]):=by
  intro e hsz e3;simp[hsz,e3];refine zam (λm e=> ∃i ws,m=64-i/\16<=i/\i<=64/\e.size=100/\za3 b i=ws/\e.get 3=.one (.own (WS ws))/\e.get 5=.one (.ro (N i))) ?_ 48 _ ⟨16,_,rfl,by omega,by omega,by simp[hsz],rfl,by simp[e3],by simp⟩
  clear hsz e3;rintro m e ⟨i,ws,rfl,hi,hi2,hsz,hw,e3,e5⟩ ih;have hws:ws.length=i:=by rw[<-hw,zen]
  by_cases hlt:i<64
  ·have hlt':(i:Int)<64:=by omega
   have hwi:IntKind.i64.wrap ((i:Int)+1)=((i+1:Nat):Int):=zah (by omega)
   have hnew:=zmx hw hi;unfold wnew at hnew;obtain⟨a,ha⟩:∃a,i-15=a:=⟨_,rfl⟩;obtain⟨b2,hb2⟩:∃a,i-2=a:=⟨_,rfl⟩;obtain⟨c,hc⟩:∃a,i-16=a:=⟨_,rfl⟩;obtain⟨d,hd⟩:∃a,i-7=a:=⟨_,rfl⟩;rw[ha,hb2,hc,hd]at hnew;have wa:IntKind.i64.wrap ((i:Int)-15)=(a:Int):=by rw[wrap64 (by omega) (by omega)];omega
   have wb:IntKind.i64.wrap ((i:Int)-2)=(b2:Int):=by rw[wrap64 (by omega) (by omega)];omega
   have wc:IntKind.i64.wrap ((i:Int)-16)=(c:Int):=by rw[wrap64 (by omega) (by omega)];omega
   have wd:IntKind.i64.wrap ((i:Int)-7)=(d:Int):=by rw[wrap64 (by omega) (by omega)];omega
   have la:a<ws.length:=by omega
   have lb:b2<ws.length:=by omega
   have lc:c<ws.length:=by omega
   have ld:d<ws.length:=by omega
   rw[zb1 _ la,zb1 _ lb,zb1 _ lc,zb1 _ ld]at hnew;have t1:=znc ws[a] 7 7 rfl (by omega)
   have t2:=znc ws[a] 18 18 rfl (by omega)
   have t3:=znc ws[b2] 17 17 rfl (by omega)
   have t4:=znc ws[b2] 19 19 rfl (by omega)
   have hap:ws.length+1<=zaf:=by simp[zaf];omega
   simp[hsz,e3,e5,hlt',hlt,hwi,wa,wb,wc,wd,la,lb,lc,ld,t1,t2,t3,t4,hap];exact ih _ _ (by omega) ⟨i+1,_,rfl,by omega,by omega,by simp[hsz],hnew,by simp,by simp⟩
  ·obtain rfl:i=64:=by omega
   subst hw;simp[hsz,e3,e5]
 have hA:(64:Int)<=zaf:=by decide
 simp[hA,-z1g];refine zam (λm e=> ∃i,m=16-i/\i<=16/\e.size=100/\e.get 0=.one (.ro (YS b))/\e.get 3=.one (.own (WS (za3 b i)))/\e.get 4=.one (.ro (N i))) ?_ 16 _ ⟨0,rfl,by omega,by simp,by simp,by simp[za3],by simp⟩
 rintro m e ⟨i,rfl,hi,hsz,e0,e3,e4⟩ ih;by_cases hlt:i<16
 ·have hlt':(i:Int)<16:=by omega
  have hwi:IntKind.i64.wrap ((i:Int)+1)=((i+1:Nat):Int):=zah (by omega)
  have hnew:za3 b (i+1)=za3 b i++[z3o b i]:=by rw[za3,if_pos hlt]
  unfold z3o at hnew;obtain⟨j,hj⟩:∃j,4*i=j:=⟨_,rfl⟩;rw[hj]at hnew;obtain⟨j1,hj1⟩:∃q,j+1=q:=⟨_,rfl⟩;obtain⟨j2,hj2⟩:∃q,j+2=q:=⟨_,rfl⟩;obtain⟨j3,hj3⟩:∃q,j+3=q:=⟨_,rfl⟩;rw[hj1,hj2,hj3]at hnew;have wj:IntKind.i64.wrap (4*(i:Int))=(j:Int):=by rw[wrap64 (by omega) (by omega)];omega
  have w1:IntKind.i64.wrap ((j:Int)+1)=(j1:Int):=by rw[wrap64 (by omega) (by omega)];omega
  have w2:IntKind.i64.wrap ((j:Int)+2)=(j2:Int):=by rw[wrap64 (by omega) (by omega)];omega
  have w3:IntKind.i64.wrap ((j:Int)+3)=(j3:Int):=by rw[wrap64 (by omega) (by omega)];omega
  have l0:j<b.length:=by omega
  have l1:j1<b.length:=by omega
  have l2:j2<b.length:=by omega
  have l3:j3<b.length:=by omega
  rw[zb1 _ l0,zb1 _ l1,zb1 _ l2,zb1 _ l3]at hnew;have hwl:=zen b i;have hap:(za3 b i).length+1<=zaf:=by simp[zaf];omega
  generalize za3 b i=ws at *;simp[hsz,e0,e3,e4,hlt',hlt,hwi,wj,w1,w2,w3,l0,l1,l2,l3,hap];exact ih _ _ (by omega) ⟨i+1,rfl,by omega,by simp[hsz],by simp[e0],by simp[hnew],by simp⟩
 ·obtain rfl:i=16:=by omega
  simp[hsz,e4,-z1g];exact go _ (by simp[hsz]) (by simp[e3])
end Go.Qz
namespace Go.Qz
open Go.Proofs
def shl8(s:S8):Nat->List (BitVec 32)
 |0=>[s.a,s.a,s.b,s.c,s.d,s.e,s.f,s.g]
 |1=>[s.a,s.b,s.b,s.c,s.d,s.e,s.f,s.g]
 |2=>[s.a,s.b,s.c,s.c,s.d,s.e,s.f,s.g]
 |3=>[s.a,s.b,s.c,s.d,s.d,s.e,s.f,s.g]
 |4=>[s.a,s.b,s.c,s.d,s.e,s.e,s.f,s.g]
 |5=>[s.a,s.b,s.c,s.d,s.e,s.f,s.f,s.g]
 |6=>[s.a,s.b,s.c,s.d,s.e,s.f,s.g,s.g]
 |_=>s.list
theorem z4p(s:S8):∀m,m<=7->(shl8 s m).length=8
 |0,_|1,_|2,_|3,_|4,_|5,_|6,_|7,_=>rfl
 |n+8,h=>by omega
theorem z18(s:S8):∀k (_:k<7),(shl8 s (k+1)).set (k+1) ((shl8 s (k+1)).getD k 0)=shl8 s k
 |0,_|1,_|2,_|3,_|4,_|5,_|6,_=>rfl
 |n+7,h=>by omega
theorem z8k:kL.length=64:=rfl
theorem zfn(s:S8):s.list.length=8:=rfl
set_option maxHeartbeats 8000000 in
theorem z8l(s0:S8)(b:List UInt8)(hb:b.length=64):C ycd [.ro (WS s0.list),.ro (YS b)] []=some (.one (.own (WS (blk s0 b).list)),[]):=by
 refine zad Tryz.func160 ycf rfl ?_;have cw:=z8j b hb;have ck:=z6k;have hws:=zen b 64;have hks:=z8k;unfold blk;have hr:∀n,rnds b s0 (n+1)=rnd (rnds b s0 n) (kL.getD n 0) ((za3 b 64).getD n 0):=λ_=>rfl
 generalize za3 b 64=ws at *;generalize kL=ks at *;have hap:s0.list.length<=zaf:=by simp[zaf,zfn]
 have go:∀e:Env,e.size=155->e.get 0=.one (.ro (WS s0.list))->e.get 7=.one (.own (WS (rnds b s0 64).list))->Run cx q160c8 e [.fn [(.tmp 4,119)] []]=some (.one (.own (WS (s0.add (rnds b s0 64)).list)),[]):=by
  intro e hsz e0 e7;generalize rnds b s0 64=t at *;have hz:(s0.add t).list=List.zipWith (· + ·) s0.list t.list:=rfl;rw[hz];have l1:=zfn s0;have l2:=zfn t;generalize s0.list=hs at *;generalize t.list=ts at *;simp[hsz];refine zam (λm e=> ∃i os,m=8-i/\i<=8/\e.size=155/\e.get 0=.one (.ro (WS hs))/\e.get 7=.one (.own (WS ts))/\e.get 15=.one (.own (WS os))/\e.get 16=.one (.ro (N i))/\os=(List.zipWith (· + ·) hs ts).take i) ?_ 8 _ ⟨0,[],rfl,by omega,by simp[hsz],by simp[e0],by simp[e7],by simp,by simp,rfl⟩
  clear hsz e0 e7;rintro m e ⟨i,os,rfl,hi,hsz,e0,e7,e15,e16,ho⟩ ih;have hol:os.length=i:=by rw[ho];simp[l1,l2];omega
  by_cases hlt:i<8
  ·have hlt':(i:Int)<8:=by omega
   have hwi:IntKind.i64.wrap ((i:Int)+1)=((i+1:Nat):Int):=zah (by omega)
   have q1:i<hs.length:=by omega
   have q2:i<ts.length:=by omega
   have hap2:os.length+1<=zaf:=by simp[zaf];omega
   have hn:os++[hs[i]+ts[i]]=(List.zipWith (· + ·) hs ts).take (i+1):=by
    rw[ho,List.take_add_one];congr 1;simp[List.getElem?_zipWith,q1,q2]
   simp[hsz,e0,e7,e15,e16,hlt',hlt,hwi,q1,q2,hap2];exact ih _ _ (by omega) ⟨i+1,_,rfl,by omega,by simp[hsz],by simp[e0],by simp[e7],by simp,by simp,hn⟩
  ·obtain rfl:i=8:=by omega
   have:os=List.zipWith (· + ·) hs ts:=by rw[ho,List.take_of_length_le (by simp[l1,l2])]
   subst this;simp[hsz,e15,e16]
 simp[cw,ck,hap,-z1e]
 refine zam (λm e=> ∃i s,m=64-i/\i<=64/\e.size=155/\e.get 0=.one (.ro (WS s0.list))/\e.get 5=.one (.own (WS ws))/\e.get 6=.one (.own (WS ks))/\e.get 7=.one (.own (WS s.list))/\e.get 8=.one (.ro (N i))/\rnds b s0 i=s) ?_ 64 _
  ⟨0,s0,rfl,by omega,by simp,by simp,by simp,by simp,by simp,by simp,rfl⟩
 clear cw ck hap;rintro m e ⟨i,s,rfl,hi,hsz,e0,e5,e6,e7,e8,hs⟩ ih;by_cases hlt:i<64
 ·have hlt':(i:Int)<64:=by omega
  have hwi:IntKind.i64.wrap ((i:Int)+1)=((i+1:Nat):Int):=zah (by omega)
  have l5:i<ws.length:=by omega
  have l6:i<ks.length:=by omega
  have hnext:=hr i;rw[hs,zb1 _ l5,zb1 _ l6]at hnext;unfold rnd at hnext;have t1:=znc s.e 6 6 rfl (by omega)
  have t2:=znc s.e 11 11 rfl (by omega)
  have t3:=znc s.e 25 25 rfl (by omega)
  have t4:=znc s.a 2 2 rfl (by omega)
  have t5:=znc s.a 13 13 rfl (by omega)
  have t6:=znc s.a 22 22 rfl (by omega)
  generalize hT:s.h+(rotr s.e 6^^^rotr s.e 11^^^rotr s.e 25)+(s.e&&&s.f^^^ ~~~s.e&&&s.g)+ks[i]+ws[i]=TT at *;generalize hA:(rotr s.a 2^^^rotr s.a 13^^^rotr s.a 22)=AA at *;generalize hM:(s.a&&&s.b^^^s.a&&&s.c^^^s.b&&&s.c)=MM at *
  have last:∀e:Env,e.size=155->e.get 0=.one (.ro (WS s0.list))->e.get 5=.one (.own (WS ws))->e.get 6=.one (.own (WS ks))->e.get 7=.one (.own (WS (shl8 s 0)))->e.get 8=.one (.ro (N i))->e.get 11=.one (.ro (W TT))->e.get 12=.one (.ro (W AA))->e.get 13=.one (.ro (W MM))->
   Run cx q160c2 e [.blk 1,.seq q160c3,.loop q160l1,.blk 0,.seq q160c8,.fn [(.tmp 4,119)] []]=some (.one (.own (WS (s0.add (rnds b s0 64)).list)),[]):=by
   intro e hsz e0 e5 e6 e7 e8 e11 e12 e13;simp only[shl8]at e7;simp[hsz,e7,e8,e11,e12,e13,hwi];exact ih _ _ (by omega) ⟨i+1,_,rfl,by omega,by simp[hsz],by simp[e0],by simp[e5],by simp[e6],by simp[S8.list],by simp,hnext⟩
  have mid:∀(m:Nat) (e:Env),m<=7->e.size=155->e.get 0=.one (.ro (WS s0.list))->e.get 5=.one (.own (WS ws))->e.get 6=.one (.own (WS ks))->e.get 7=.one (.own (WS (shl8 s m)))->e.get 8=.one (.ro (N i))->e.get 11=.one (.ro (W TT))->e.get 12=.one (.ro (W AA))->e.get 13=.one (.ro (W MM))->e.get 14=.one (.ro (N m))->
   Run cx (.loop q160l0) e [.blk 2,.seq q160c2,.blk 1,.seq q160c3,.loop q160l1,.blk 0,.seq q160c8,.fn [(.tmp 4,119)] []]=some (.one (.own (WS (s0.add (rnds b s0 64)).list)),[]):=by
   intro m e hm hsz e0 e5 e6 e7 e8 e11 e12 e13 e14;refine zam (λm e=>m<=7/\e.size=155/\e.get 0=.one (.ro (WS s0.list))/\e.get 5=.one (.own (WS ws))/\e.get 6=.one (.own (WS ks))/\e.get 7=.one (.own (WS (shl8 s m)))/\e.get 8=.one (.ro (N i))/\e.get 11=.one (.ro (W TT))/\e.get 12=.one (.ro (W AA))/\e.get 13=.one (.ro (W MM))/\e.get 14=.one (.ro (N m))) ?_ m _ ⟨hm,hsz,e0,e5,e6,e7,e8,e11,e12,e13,e14⟩
   clear hm hsz e0 e5 e6 e7 e8 e11 e12 e13 e14;rintro m e ⟨hm,hsz,e0,e5,e6,e7,e8,e11,e12,e13,e14⟩ ih2;rcases Nat.eq_zero_or_pos m with rfl|hp
   ·simp[hsz,e14,-z1d];exact last _ (by simp[hsz]) (by simp[e0]) (by simp[e5]) (by simp[e6]) (by simp[e7]) (by simp[e8]) (by simp[e11]) (by simp[e12]) (by simp[e13])
   ·obtain⟨k,rfl⟩:∃k,m=k+1:=⟨m-1,by omega⟩
    have hsl:=z4p s (k+1) hm;have hst:=z18 s k (by omega)
    generalize shl8 s (k+1)=ss at *;obtain⟨q,hq⟩:∃q,k+1=q:=⟨_,rfl⟩;have wq:IntKind.i64.wrap ((q:Int)-1)=(k:Int):=by rw[wrap64 (by omega) (by omega)];omega
    have lk:k<ss.length:=by omega
    have lq:q<ss.length:=by omega
    have q0:0<q:=by omega
    rw[hq,zb1 _ lk]at hst;rw[hq]at e14 ih2;simp[hsz,e7,e14,wq,lk,lq,q0];exact ih2 k _ (by omega) ⟨by omega,by simp[hsz],by simp[e0],by simp[e5],by simp[e6],by simp[List.map_set,<-hst],by simp[e8],by simp[e11],by simp[e12],by simp[e13],by simp⟩
  have e7':=e7;simp only[S8.list]at e7';simp[hsz,e5,e6,e7',e8,hlt',hlt,l5,l6,t1,t2,t3,t4,t5,t6,-z1d];exact mid 7 _ (by omega) (by simp[hsz]) (by simp[e0]) (by simp[e5]) (by simp[e6]) (by simp[e7',shl8,S8.list]) (by simp[e8]) (by simp[hT]) (by simp[hA]) (by simp[hM]) (by simp)
 ·obtain rfl:i=64:=by omega
  simp[hsz,e8,-z1e];exact go _ (by simp[hsz]) (by simp[e0]) (by rw[hs];simp[e7])
end Go.Qz
namespace Go.Qz
open Go.Proofs
def zg0(n:Nat):Nat->List UInt8
 |0=>[]
 |j+1=>zg0 n j++[lenB n (7-j)]
theorem zj4(n:Nat):∀j,(zg0 n j).length=j
 |0=>rfl
 |j+1=>by rw[zg0,List.length_append,zj4 n j];rfl
theorem zr7(t:List UInt8):zb4 t=padZ t++zg0 t.length 8:=rfl
theorem zmy:∀xs:List UInt8,zj5 (xs.map Y8)=some xs
 | []=>rfl
 |b::r=>by simp[zj5,zmy r]
theorem zvu(k:IntKind)(hk:k.bits=64)(n p j:Nat)(hp:p=8*j)(hj:j<=7):IntKind.u8.wrap (Int.fdiv ((8*n:Nat):Int) (2^min p k.bits))=((lenB n j).toNat:Int):=by
 subst hp;rw[hk,Nat.min_eq_left (by omega)]
 have e:(2^(8*j):Int)=((2^(8*j):Nat):Int):=by rw[Int.natCast_pow];rfl
 rw[e,Int.fdiv_eq_ediv_of_nonneg _ (Int.natCast_nonneg _),<-Int.natCast_ediv];simp[IntKind.wrap,IntKind.signed,IntKind.bits,lenB]
def padK(t:List UInt8)(k:Nat):List UInt8:=t++[128]++List.replicate k 0
theorem zr8(t:List UInt8)(k:Nat):padK t (k+1)=padK t k++[0]:=by
 simp[padK,List.replicate_succ']
theorem zk1(t:List UInt8)(k:Nat):(padK t k).length=t.length+1+k:=by simp[padK];omega
set_option maxHeartbeats 4000000 in
theorem padS(l:List UInt8)(hl:l.length<=100000000):C yca [.ro (T l)] []=some (.one (.own (YS (zb4 l))),[]):=by
 refine zad Tryz.func159 ycc rfl ?_;have hms:l.length<=zag:=by simp[zag];omega
 have hap:l.length+1<=zaf:=by simp[zaf];omega
 have hdb:za2 ⟨l.toArray⟩=l.map Y8:=by simp[za2]
 have hz:padZ l=padK l ((119-l.length % 64) % 64):=rfl;rw[zr7,hz];obtain⟨K,hK⟩:∃K,(119-l.length % 64) % 64=K:=⟨_,rfl⟩;rw[hK]
 have go:∀(e:Env),e.size=33->e.get 0=.one (.ro (T l))->e.get 3=.one (.own (YS (padK l K)))->Run cx q159c4 e [.fn [(.tmp 2,39)] []]=some (.one (.own (YS (padK l K++zg0 l.length 8))),[]):=by
  intro e hsz e0 e3;have hPl:=zk1 l K;generalize padK l K=P0 at *;have hw:IntKind.i64.wrap ((l.length:Int)*8)=((8*l.length:Nat):Int):=by rw[wrap64 (by omega) (by omega)];omega
  have hlb:=zvu .i64 rfl l.length;obtain⟨q,hq⟩:∃q,8*l.length=q:=⟨_,rfl⟩;rw[hq]at hw hlb;simp[hsz,e0,hw];refine zam (λm e=> ∃j os,m=8-j/\j<=8/\e.size=33/\e.get 3=.one (.own (YS (P0++os)))/\e.get 4=.one (.ro (N q))/\e.get 5=.one (.ro (I (((8-j:Nat):Int)-1)))/\os=zg0 l.length j) ?_ 8 _ ⟨0,[],rfl,by omega,by simp[hsz],by simp[e3],by simp,by simp,rfl⟩
  clear hsz e0 e3;rintro m e ⟨j,os,rfl,hj,hsz,e3,e4,e5,ho⟩ ih;have hol:os.length=j:=by rw[ho,zj4]
  by_cases hlt:j<8
  ·obtain⟨i,hi⟩:∃i,7-j=i:=⟨_,rfl⟩;have ej:(((8-j:Nat):Int)-1)=(i:Int):=by omega
   rw[ej]at e5;obtain⟨p,hp⟩:∃p,8*i=p:=⟨_,rfl⟩;have w8:IntKind.i64.wrap (8*(i:Int))=(p:Int):=by rw[wrap64 (by omega) (by omega)];omega
   have w9:IntKind.i64.wrap ((i:Int)-1)=(((8-(j+1):Nat):Int)-1):=by rw[wrap64 (by omega) (by omega)];omega
   have n1:¬(p:Int)<0:=by omega
   have hap2:(P0++os).length+1<=zaf:=by simp[zaf];omega
   have hnew:os++[lenB l.length i]=zg0 l.length (j+1):=by rw[zg0,<-ho,hi]
   have hb:=hlb p i hp.symm (by omega)
   generalize hQ:P0++os=Q at *;simp[hsz,e3,e4,e5,w8,w9,n1,hap2,hb];exact ih _ _ (by omega) ⟨j+1,_,rfl,by omega,by simp[hsz],by simp[<-hQ],by simp[e4],by simp,hnew⟩
  ·obtain rfl:j=8:=by omega
   subst ho;simp[hsz,e3,e5]
 simp[hms,hap,hdb,-z1c];refine zam (λm e=> ∃k,m=K-k/\k<=K/\e.size=33/\e.get 0=.one (.ro (T l))/\e.get 3=.one (.own (YS (padK l k)))) ?_ K _ ⟨0,rfl,by omega,by simp,by simp,by simp[padK]⟩
 rintro m e ⟨k,rfl,hk,hsz,e0,e3⟩ ih;have hPl:=zk1 l k;have hr:(((padK l k).length:Nat):Int).tmod 64=(((padK l k).length % 64:Nat):Int):=by rw[Int.ofNat_tmod];rfl
 by_cases h56:k=K
 ·subst h56;have h56':(padK l k).length % 64=56:=by omega
  rw[h56']at hr;have gg:=go e hsz e0 e3;generalize padK l k=P0 at *;simp[hsz,e3,hr,-z1c];exact go _ (by simp[hsz]) (by simp[e0]) (by simp[e3])
 ·have hne2:¬(padK l k).length % 64=56:=by omega
  have hs:=zr8 l k;have hap2:(padK l k).length+1<=zaf:=by simp[zaf];omega
  generalize padK l k=P0 at *;obtain⟨q,hq⟩:∃q,P0.length % 64=q:=⟨_,rfl⟩;rw[hq]at hr hne2;have hne3:(q==56)=false:=by simpa using hne2
  simp[hsz,e3,hr,hne2,hne3,hap2];exact ih _ _ (by omega) ⟨k+1,rfl,by omega,by simp[hsz],by simp[e0],by simp[hs]⟩
def byW(v:BitVec 32):List UInt8:=[lb (v>>>24),lb (v>>>16),lb (v>>>8),lb v]
def zpn(t:List UInt8):List UInt8:=(blks (zb4 t) ((zb4 t).length/64)).list.flatMap byW
theorem z19(xs:List (BitVec 32)):(xs.flatMap byW).length=4*xs.length:=by
 induction xs with
 |nil=>rfl
 |cons a r ih=>rw[List.flatMap_cons,List.length_append,ih];simp[byW];omega
theorem zuf{α β:Type}(f:α->List β){xs:List α}{i:Nat}(h:i<xs.length):(xs.take (i+1)).flatMap f=(xs.take i).flatMap f++f xs[i]:=by
 rw[List.take_add_one,List.getElem?_eq_getElem h];simp only[Option.toList_some,List.flatMap_append,List.flatMap_cons,List.flatMap_nil,List.append_nil]
set_option maxHeartbeats 4000000 in
theorem z8m(l:List UInt8)(hl:l.length<=100000000):C yaz [.ro (T l)] []=some (.one (.ro (T (zpn l))),[]):=by
 refine zad Tryz.func124 ya1 rfl ?_;have hp:=padS l hl;have hpl:=(zhj l).1
 have hpb:(zb4 l).length<=100000200:=by
  have:=(zhj l).2;simp[padZ]at this;omega
 unfold zpn;have hb:∀n,blks (zb4 l) (n+1)=blk (blks (zb4 l) n) (((zb4 l).drop (64*n)).take 64):=λ_=>rfl
 have hb0:blks (zb4 l) 0=h0:=rfl;obtain⟨k,hk⟩:∃k,(zb4 l).length/64=k:=⟨_,rfl⟩;rw[hk]at hpl ⊢;generalize zb4 l=bs at *
 have go:∀e:Env,e.size=57->e.get 3=.one (.own (WS (blks bs k).list))->Run cx q124c5 e [.fn [(.tmp 2,9)] []]=some (.one (.ro (T ((blks bs k).list.flatMap byW))),[]):=by
  intro e hsz e3;have hhs:=zfn (blks bs k);generalize (blks bs k).list=hs at *;simp[hsz];refine zam (λm e=> ∃i os,m=8-i/\i<=8/\e.size=57/\e.get 3=.one (.own (WS hs))/\e.get 6=.one (.own (YS os))/\e.get 7=.one (.ro (N i))/\os=(hs.take i).flatMap byW) ?_ 8 _ ⟨0,[],rfl,by omega,by simp[hsz],by simp[e3],by simp,by simp,rfl⟩
  clear hsz e3;rintro m e ⟨i,os,rfl,hi,hsz,e3,e6,e7,ho⟩ ih;have hol:os.length=4*i:=by rw[ho,z19,List.length_take];omega
  by_cases hlt:i<8
  ·have hlt':(i:Int)<8:=by omega
   have hwi:IntKind.i64.wrap ((i:Int)+1)=((i+1:Nat):Int):=zah (by omega)
   have l1:i<hs.length:=by omega
   have hap:os.length+4<=zaf:=by simp[zaf];omega
   have hn:os++byW hs[i]=(hs.take (i+1)).flatMap byW:=by rw[ho,zuf _ l1]
   unfold byW at hn;simp[hsz,e3,e6,e7,hlt',hlt,hwi,l1,hap];exact ih _ _ (by omega) ⟨i+1,_,rfl,by omega,by simp[hsz],by simp[e3],by simp,by simp,hn⟩
  ·obtain rfl:i=8:=by omega
   have:os=hs.flatMap byW:=by rw[ho,List.take_of_length_le (by omega)]
   subst this;simp[hsz,e6,e7,zmy]
 have h0l:WS h0.list=.sl 1 [.int .u32 1779033703,.int .u32 3144134277,.int .u32 1013904242,.int .u32 2773480762,.int .u32 1359893119,.int .u32 2600822924,.int .u32 528734635,.int .u32 1541459225]:=by simp[h0,S8.list,wn]
 simp[hp,-ztw];refine zam (λm e=> ∃i s j,m=k-i/\i<=k/\e.size=57/\e.get 3=.one (.own (WS s.list))/\(e.get 4=.one (.own (YS bs))∨e.get 4=.one (.ro (YS bs)))/\j=64*i/\e.get 5=.one (.ro (N j))/\blks bs i=s) ?_ k _ ⟨0,h0,0,rfl,by omega,by simp,by rw[h0l];simp,.inl (by simp),rfl,by simp,hb0⟩
 clear hp;rintro m e ⟨i,s,j,rfl,hi,hsz,e3,e4,hj,e5,hs⟩ ih;by_cases hlt:i<k
 ·have hlt':j<bs.length:=by omega
  obtain⟨j2,hj2⟩:∃q,j+64=q:=⟨_,rfl⟩;have w:IntKind.i64.wrap ((j:Int)+64)=(j2:Int):=by rw[wrap64 (by omega) (by omega)];omega
  have l2:j2<=bs.length:=by omega
  have l3:j<=j2:=by omega
  have hdt:(bs.drop (64*i)).take 64=(bs.take j2).drop j:=by rw[<-hj,List.drop_take];congr 1;omega
  have hsub:((bs.take j2).drop j).length=64:=by rw[List.length_drop,List.length_take];omega
  have hnext:=hb i;rw[hdt,hs]at hnext;have hbl:=z8l s ((bs.take j2).drop j) hsub;rw[<-hnext]at hbl;have e1:List.map Y8 ((bs.take j2).drop j)=List.drop j (List.take j2 (bs.map Y8)):=by rw[List.map_drop,List.map_take]
  simp only[YS,e1]at hbl;have l2':(j2:Int)<=bs.length:=by omega
  have l3':(j:Int)<=j2:=by omega
  rcases e4 with e4|e4
  ·simp[hsz,e3,e4,e5,hlt',w,l2,l3,l2',l3',hbl];exact ih _ _ (by omega) ⟨i+1,_,j2,rfl,by omega,by simp[hsz],by simp,.inr (by simp),by omega,by simp,rfl⟩
  ·simp[hsz,e3,e4,e5,hlt',w,l2,l3,l2',l3',hbl];exact ih _ _ (by omega) ⟨i+1,_,j2,rfl,by omega,by simp[hsz],by simp,.inr (by simp[e4]),by omega,by simp,rfl⟩
 ·obtain rfl:i=k:=by omega
  have hje:j=bs.length:=by omega
  subst hje;rcases e4 with e4|e4
  ·simp[hsz,e4,e5,-ztw];exact go _ (by simp[hsz]) (by simp[e3,hs])
  ·simp[hsz,e4,e5,-ztw];exact go _ (by simp[hsz]) (by simp[e3,hs])
def figP(b:UInt8):List UInt8:=[fig (b.toNat/16),fig (b.toNat % 16)]
theorem zug(q:Nat)(h:q<16):(#[48,49,50,51,52,53,54,55,56,57,97,98,99,100,101,102]:Array UInt8)[q]? =some (fig q):=by
 have:∀q:Fin 16,(#[48,49,50,51,52,53,54,55,56,57,97,98,99,100,101,102]:Array UInt8)[q.val]? =some (fig q.val):=by decide
 exact this ⟨q,h⟩
theorem zvv(xs:List UInt8):(xs.flatMap figP).length=2*xs.length:=by
 induction xs with
 |nil=>rfl
 |cons a r ih=>rw[List.flatMap_cons,List.length_append,ih];simp[figP];omega
set_option maxHeartbeats 4000000 in
theorem ydp(l:List UInt8)(hl:l.length=32):C yaw [.ro (T l)] []=some (.one (.ro (T (l.flatMap figP))),[]):=by
 refine zad Tryz.func123 yay rfl ?_;simp
 refine zam (λm e=> ∃i os,m=32-i/\i<=32/\e.size=30/\e.get 0=.one (.ro (T l))/\e.get 3=.one (.ro (.str ⟨#[48,49,50,51,52,53,54,55,56,57,97,98,99,100,101,102]⟩))/\e.get 4=.one (.own (YS os))/\e.get 5=.one (.ro (N i))/\os=(l.take i).flatMap figP)
  ?_ 32 _ ⟨0,[],rfl,by omega,by simp,by simp,by simp,by simp,by simp,rfl⟩
 rintro m e ⟨i,os,rfl,hi,hsz,e0,e3,e4,e5,ho⟩ ih;have hol:os.length=2*i:=by rw[ho,zvv,List.length_take];omega
 by_cases hlt:i<32
 ·have hlt':i<l.length:=by omega
  have hwi:IntKind.i64.wrap ((i:Int)+1)=((i+1:Nat):Int):=zah (by omega)
  have hb:=l[i].toNat_lt;have hn:os++figP l[i]=(l.take (i+1)).flatMap figP:=by rw[ho,zuf _ hlt']
  unfold figP at hn;have hq1:((l[i].toNat:Int)).tdiv 16=((l[i].toNat/16:Nat):Int):=by rw[Int.ofNat_tdiv];rfl
  have hr1:((l[i].toNat:Int)).tmod 16=((l[i].toNat % 16:Nat):Int):=by rw[Int.ofNat_tmod];rfl
  obtain⟨q,hq⟩:∃q,l[i].toNat/16=q:=⟨_,rfl⟩;obtain⟨r,hr⟩:∃r,l[i].toNat % 16=r:=⟨_,rfl⟩;have hql:q<16:=by omega
  have hrl:r<16:=by omega
  rw[hq]at hq1 hn;rw[hr]at hr1 hn;have f1:=zug q hql;have f2:=zug r hrl;have wq:IntKind.u8.wrap (q:Int)=(q:Int):=by simp[IntKind.wrap,IntKind.signed,IntKind.bits];omega
  have hap:os.length+2<=zaf:=by simp[zaf];omega
  simp[hsz,e0,e3,e4,e5,hlt',hlt,hwi,hl,hq1,hr1,wq,f1,f2,hap];exact ih _ _ (by omega) ⟨i+1,_,rfl,by omega,by simp[hsz],by simp[e0],by simp[e3],by simp,by simp,hn⟩
 ·obtain rfl:i=32:=by omega
  have:os=l.flatMap figP:=by rw[ho,List.take_of_length_le (by omega)]
  subst this;simp[hsz,e0,e4,e5,hl,zmy]
theorem z2a(v:BitVec 32):(byW v).flatMap figP=figW v:=by
 have h:=v.isLt;simp only[byW,figP,figW,lb,List.flatMap_cons,List.flatMap_nil,List.append_nil,List.cons_append,List.nil_append,BitVec.toNat_ushiftRight,Nat.shiftRight_eq_div_pow,UInt8.toNat_ofNat'];generalize v.toNat=x at *;have a1:x/2^24 % 2^8/16=x/2^28 % 16:=by omega
 have a2:x/2^24 % 2^8 % 16=x/2^24 % 16:=by omega
 have a3:x/2^16 % 2^8/16=x/2^20 % 16:=by omega
 have a4:x/2^16 % 2^8 % 16=x/2^16 % 16:=by omega
 have a5:x/2^8 % 2^8/16=x/2^12 % 16:=by omega
 have a6:x/2^8 % 2^8 % 16=x/2^8 % 16:=by omega
 have a7:x % 2^8/16=x/2^4 % 16:=by omega
 have a8:x % 2^8 % 16=x % 16:=by omega
 rw[a1,a2,a3,a4,a5,a6,a7,a8]
theorem z4q(t:List UInt8):((zpn t).flatMap figP).take 16=sumT t:=by
 unfold zpn sumT;generalize blks (zb4 t) ((zb4 t).length/64)=s;simp only[S8.list,List.flatMap_cons,List.flatMap_append,z2a];rw[<-List.append_assoc];exact List.take_left' rfl
theorem zr9(t:List UInt8):(zpn t).length=32:=by
 unfold zpn;rw[z19,zfn]
theorem z6l(l:List UInt8)(hl:l.length<=100000000):C Fn76 [.ro (T l)] []=some (.one (.ro (T (sumT l))),[]):=by
 refine zad Tryz.func76 Cv76 rfl ?_;have h1:=z8m l hl;have h2:=ydp (zpn l) (zr9 l);have h3:=zvv (zpn l);rw[zr9]at h3;rw[<-z4q];generalize (zpn l).flatMap figP=fs at *;simp[h1,h2,h3]
end Go.Qz
namespace Go.Qz
open Go.Proofs
structure Pk where
 name:List UInt8
 ver:List UInt8
 needs:List Ne
 tree:List En
abbrev PkD(p:Pk):D:=.agg [T p.name,T p.ver,NeS p.needs,ES p.tree]
structure PkSz(p:Pk):Prop where
 name:p.name.length<=1048576
 ver:p.ver.length<=1048576
 needs:p.needs.length<=1048576
 tree:p.tree.length<=1048576
 need:∀e∈p.needs,neSz e
 ent:∀e∈p.tree,enSz e
def zf3(p:Pk):Bool:=zcv p.name&&(zf2 p.ver&&((p.needs.all zb5&&decide (p.needs.length<=6)&& !dupT [p.name] (p.needs.map Ne.name))&&zc2 p.tree))
theorem zx0(p:Pk)(h:PkSz p):C Fn18 [.ro (PkD p)] []=some (.one (.ro (.bool (zf3 p))),[]):=by
 refine zad Tryz.func18 Cv18 rfl ?_;have h1:=zrx p.name (by have:=h.name;omega)
 rw[zvo]at h1;have h2:=zjd p.ver h.ver;have h3:=zxq p.needs p.name h.need h.needs;have h4:=zxx p.tree h.ent (by have:=h.tree;omega)
 unfold zf3;generalize (p.needs.all zb5&&decide (p.needs.length<=6)&& !dupT [p.name] (p.needs.map Ne.name))=b3 at *;generalize zc2 p.tree=b4 at *;generalize zf2 p.ver=b2 at *;generalize zcv p.name=b1 at *;cases b1
 ·simp[h1]
 ·cases b2
  ·simp[h1,h2]
  ·cases b3
   ·simp[h1,h2,h3]
   ·simp[h1,h2,h3,h4]
theorem zx1(p:Pk)(h:PkSz p):C Fn17 [.ro (PkD p)] []=some (.one (.ro (.bool (zf3 p))),[]):=by
 refine zad Tryz.func17 Cv17 rfl ?_;have h1:=zjb p.name (by have:=h.name;omega)
 have h2:=zjc p.ver h.ver;have h3:=zxn p.needs h.need (by have:=h.needs;omega)
 have h5:=zry p.needs p.name (by have:=h.needs;omega)
 have h4:=zog p.tree h.ent (by have:=h.tree;omega)
 unfold zf3;generalize dupT [p.name] (p.needs.map Ne.name)=b5 at *;generalize p.needs.all zb5=b3 at *;generalize zc2 p.tree=b4 at *;generalize zf2 p.ver=b2 at *;generalize zcv p.name=b1 at *;cases b1
 ·simp[h1]
 ·cases b2
  ·simp[h1,h2]
  ·by_cases h6:p.needs.length<=6
   ·have h6':¬6<p.needs.length:=by omega
    cases b3
    ·simp[h1,h2,h3,h6,h6']
    ·cases b5
     ·simp[h1,h2,h3,h4,h5,h6,h6']
     ·simp[h1,h2,h3,h5,h6,h6']
   ·have h6':6<p.needs.length:=by omega
    simp[h1,h2,h6,h6']
end Go.Qz
namespace Go.Qz
open Go.Proofs
def zex(e:Ne):List UInt8:=110::101::101::100::32::(zm9 e++[10])
def zmz(p:Pk):List UInt8:=112::97::99::107::32::(p.name++32::(p.ver++[10]))
def zby(es:List Ne):List UInt8:=es.flatMap zex
def zey(p:Pk):List UInt8:=zmz p++(zby p.needs++10::zbx p.tree)
def z4r(p:Pk):List UInt8:=115::117::109::32::(sumT (zey p)++10::zey p)
def zsa(p:Pk):List UInt8:=if zf3 p then z4r p else []
theorem zsb(e:Ne)(h:zb5 e=true):(zex e).length<=98:=by
 have:=(zmu h).2;simp[zex];omega
theorem zdy:∀(es:List Ne),(∀e∈es,zb5 e=true)->(zby es).length<=es.length*98
 | [],_=>by simp[zby]
 |e::r,h=>by
  have h1:=zsb e (h e (by simp))
  have h2:=zdy r (λx hx=>h x (by simp[hx]))
  simp only[zby,List.flatMap_cons,List.length_append,List.length_cons]at h2 ⊢;omega
theorem zhy{es:List Ne}{i:Nat}(h:i<es.length):zby (es.take (i+1))=zby (es.take i)++zex es[i]:=zuf _ h
structure zoi(p:Pk):Prop where
 name:zcv p.name=true
 ver:zf2 p.ver=true
 needs:∀e∈p.needs,zb5 e=true
 few:p.needs.length<=6
 tree:zc2 p.tree=true
theorem z2b{p:Pk}(h:zf3 p=true):zoi p:=by
 unfold zf3 at h;simp only[Bool.and_eq_true,List.all_eq_true,decide_eq_true_eq]at h;exact⟨h.1,h.2.1,h.2.2.1.1.1,h.2.2.1.1.2,h.2.2.2⟩
theorem zpo{p:Pk}(h:zoi p):(zmz p).length<=100:=by
 have h1:=(zje h.name).2;have h2:=(zk0 h.ver).2;simp[zmz];omega
end Go.Qz
namespace Go.Qz
open Go.Proofs
set_option maxHeartbeats 1000000 in
set_option maxRecDepth 4000 in
theorem z2c(p:Pk)(hz:PkSz p)(F:zoi p):C Fn75 [.ro (PkD p)] []=some (.one (.ro (T (zey p))),[]):=by
 refine zad Tryz.func75 Cv75 rfl ?_;have hl:=zxy p.tree (λe he=>⟨hz.ent e he,zd7 ((zbo F.tree).2 e he)⟩) (by have:=(zbo F.tree).1;omega)
 have hlen:=zd6 p.tree (λe he=>⟨hz.ent e he,zd7 ((zbo F.tree).2 e he)⟩)
 have h16:p.tree.length<=16:=(zbo F.tree).1;have hlen2:p.tree.length*2097252<=16*2097252:=Nat.mul_le_mul_right _ h16;have h1:=(zje F.name).2;have h2:=(zk0 F.ver).2;have h6:=F.few;have hall:=F.needs;have hhead:=zpo F;have hneed:=λe he=>hz.need e he
 unfold zey zmz;unfold zmz at hhead;obtain⟨n,v,ns,tr⟩:=p;simp only at *;generalize zbx tr=L at *;have z1:5+n.length<=zag:=by unfold zag;omega
 have z2:n.length+1+1+1+1+1+1<=zag:=by unfold zag;omega
 have z3:n.length+1+1+1+1+1+1+v.length<=zag:=by unfold zag;omega
 have z4:n.length+(v.length+1)+1+1+1+1+1+1<=zag:=by unfold zag;omega
 simp[z1,z2,z3,z4]
 refine zam (λm e=> ∃i acc,m=ns.length-i/\i<=ns.length/\e.size=36/\e.get 1=.one (.ptr 1 0)/\e.box 1=some [.ro (T n),.ro (T v),.ro (NeS ns),.ro (ES tr)]/\e.get 3=.one (.ro (T acc))/\e.get 4=.one (.ro (N i))/\acc=112::97::99::107::32::(n++32::(v++[10]))++zby (ns.take i)) ?_ ns.length _
  ⟨0,112::97::99::107::32::(n++32::(v++[10])),rfl,Nat.zero_le _,by simp,by simp,by simp,by simp,by simp,by simp[zby]⟩
 clear z1 z2 z3 z4;rintro m e ⟨i,acc,rfl,hi,hsz,e1,b1,e3,e4,ha⟩ ih
 have hal:acc.length<=800:=by
  have q:=zdy (ns.take i) (λe he=>hall e (List.mem_of_mem_take he))
  have q2:(ns.take i).length*98<=6*98:=Nat.mul_le_mul_right _ (by rw[List.length_take];omega)
  rw[ha,List.length_append];omega
 rcases Nat.lt_or_ge i ns.length with hlt|hge
 ·have hwi:IntKind.i64.wrap ((i:Int)+1)=((i+1:Nat):Int):=zah (by omega)
  have hmem:=List.getElem_mem hlt;have hp:=z4k ns[i] (hneed _ hmem);have hn:=(zmu (hall _ hmem)).2;have hnext:acc++zex ns[i]=112::97::99::107::32::(n++32::(v++[10]))++zby (ns.take (i+1)):=by rw[zhy hlt,ha,List.append_assoc]
  unfold zex at hnext;generalize zm9 ns[i]=w at *;have z1:acc.length+5<=zag:=by unfold zag;omega
  have z2:acc.length+5+w.length<=zag:=by unfold zag;omega
  have z3:acc.length+(w.length+1+1+1+1+1)+1<=zag:=by unfold zag;omega
  simp[hsz,e1,b1,e3,e4,hlt,hwi,hp,z1,z2,z3];exact ih _ _ (by omega) ⟨i+1,acc++110::101::101::100::32::(w++[10]),rfl,by omega,by simp[hsz],by simp[e1],by simp[b1],by simp,by simp,hnext⟩
 ·obtain rfl:i=ns.length:=by omega
  rw[List.take_length]at ha;have z1:acc.length+1<=zag:=by unfold zag;omega
  have z2:acc.length+1+L.length<=zag:=by unfold zag;omega
  simp[hsz,e1,b1,e3,e4,hl,z1,z2];rw[ha];simp
theorem zvw(p:Pk)(hz:PkSz p)(F:zoi p):(zey p).length<=40000000:=by
 have hlen:=zd6 p.tree (λe he=>⟨hz.ent e he,zd7 ((zbo F.tree).2 e he)⟩)
 have h16:p.tree.length<=16:=(zbo F.tree).1;have hlen2:p.tree.length*2097252<=16*2097252:=Nat.mul_le_mul_right _ h16;have h1:=zpo F;have h2:=zdy p.needs F.needs;have h3:p.needs.length*98<=6*98:=Nat.mul_le_mul_right _ F.few;simp only[zey,List.length_append,List.length_cons];omega
theorem z4s(p:Pk)(hz:PkSz p)(F:zoi p):C Fn34 [.ro (PkD p)] []=some (.one (.ro (T (z4r p))),[]):=by
 refine zad Tryz.func34 Cv34 rfl ?_;have h1:=z2c p hz F;have hl:=zvw p hz F;have h2:=z6l (zey p) (by omega)
 have h3:=zvg (zey p);unfold z4r;generalize zey p=B at *;generalize sumT B=s at *;have z1:4+s.length<=zag:=by unfold zag;omega
 have z2:s.length+1+1+1+1+1<=zag:=by unfold zag;omega
 have z3:s.length+1+1+1+1+1+B.length<=zag:=by unfold zag;omega
 simp[h1,h2,z1,z2,z3]
theorem zuh(p:Pk)(hz:PkSz p):C Fn8 [.ro (PkD p)] []=some (.one (.ro (T (zsa p))),[]):=by
 refine zad Tryz.func8 Cv8 rfl ?_;have hok:=zx0 p hz;unfold zsa
 cases ho:zf3 p with
 |false=>rw[ho]at hok;simp[hok]
 |true=>
  rw[ho]at hok;have h1:=z4s p hz (z2b ho);simp[hok,h1]
end Go.Qz
namespace Go.Qz
open Go.Proofs
theorem ydq:∀n:Fin 32,n.val≠0->IntKind.u64.wrap (((IntKind.u64.wrap (IntKind.i64.wrap (-(n.val:Int))) % 2^IntKind.u64.bits).toNat&&&31 % 2^IntKind.u64.bits:Nat):Int)=((32-n.val:Nat):Int):=by decide
theorem znd(v:BitVec 32)(m:Int)(n:Nat)(hm:m=n)(h1:1<=n)(h2:n<=31):C ya2 [.ro (W v),.ro (I m)] []=some (.one (.ro (W (rotr v n))),[]):=by
 subst hm
 have hr:C ycg [.ro (W v),.ro (I (IntKind.i64.wrap (-(n:Int))))] []=some (.one (.ro (W (rotr v n))),[]):=by
  refine zad Tryz.func163 yci rfl ?_;have h3:=ydq ⟨n,by omega⟩ (by simp;omega)
  simp only at h3;obtain⟨k,hk⟩:∃k,IntKind.i64.wrap (-(n:Int))=k:=⟨_,rfl⟩;rw[hk]at h3 ⊢;obtain⟨q,hq⟩:∃q,32-n=q:=⟨_,rfl⟩;rw[hq]at h3;have n1:¬(q:Int)<0:=by omega
  have w2:IntKind.u64.wrap (32-(q:Int))=(n:Int):=by
   simp[IntKind.wrap,IntKind.signed,IntKind.bits];omega
  simp[h3,n1,w2,rotr,hq,BitVec.or_comm]
 refine zad Tryz.func127 ya4 rfl ?_;simp[hr]
abbrev WA(v:BitVec 32):A:=.ro (W v)
theorem z6m(i:Nat)(h:i<64):∃hk:i<kL.length,sumTab[i]? =some (kL[i]).toNat:=by
 refine⟨h,?_⟩;have:∀q:Fin 64,sumTab[q.val]? =some (kL.getD q.val 0).toNat:=by decide
 have h1:=this ⟨i,h⟩;rw[zb1 _ (by exact h)]at h1
 exact h1
def pw(b:List UInt8)(i:Nat):Nat->BitVec 32
 |0=>0
 |j+1=>pw b i j<<<8|||bw (b.getD (4*i+j) 0)
theorem z6n(b:List UInt8)(i:Nat):pw b i 4=z3o b i:=zw4 _ _ _ _
theorem z6o(b:List UInt8)(j0 j4 k:Nat)(h:j0+k<j4)(hl:j4<=b.length)(hk:k<((b.take j4).drop j0).length):((b.take j4).drop j0)[k]=b.getD (j0+k) 0:=by
 rw[zb1 0 (by omega)]
 simp
theorem zvx{α:Type}{l:List α}{i:Nat}{x:α}(h:i<l.length):(l.set i x).take (i+1)=l.take i++[x]:=by
 rw[List.take_add_one,List.take_set_of_le (Nat.le_refl _)];simp[h]
set_option maxHeartbeats 20000000 in
set_option maxRecDepth 8000 in
theorem z8n(s0:S8)(b:List UInt8)(hb:b.length=64):C Fn83 [.ro (.agg (s0.list.map W)),.ro (YS b)] []=some (.one (.ro (.agg ((blk s0 b).list.map W))),[]):=by
 refine zad Tryz.func83 Cv83 rfl ?_;unfold blk;obtain⟨R,hR⟩:∃R:S8,s0.add (rnds b s0 64)=R:=⟨_,rfl⟩;rw[hR]
 have stE:∀e:Env,e.size=208->e.get 2=.one (.ptr 2 0)->e.box 2=some (s0.list.map WA)->e.get 4=.one (.ptr 4 0)->(∃cs,cs.length=8/\e.box 4=some cs)->
  (∀r:S8,r=rnds b s0 64->e.get 12=.one (WA r.a)/\e.get 13=.one (WA r.b)/\e.get 14=.one (WA r.c)/\e.get 15=.one (WA r.d)/\e.get 16=.one (WA r.e)/\e.get 17=.one (WA r.f)/\e.get 18=.one (WA r.g)/\e.get 19=.one (WA r.h))->
  Run cx q83c11 e [.fn [(.cell 4 116,116)] []]=some (.one (.ro (.agg (R.list.map W))),[]):=by
  rintro e hsz e2 b2 e4 ⟨cs,hcs,b4⟩ ht;obtain⟨t1,t2,t3,t4,t5,t6,t7,t8⟩:=ht _ rfl;generalize rnds b s0 64=r at *;subst hR
  obtain⟨c0,c1,c2,c3,c4,c5,c6,c7,rfl⟩:∃c0 c1 c2 c3 c4 c5 c6 c7,cs=[c0,c1,c2,c3,c4,c5,c6,c7]:=by
   match cs,hcs with
   | [c0,c1,c2,c3,c4,c5,c6,c7],_=>exact⟨_,_,_,_,_,_,_,_,rfl⟩
  simp only[S8.list,List.map_cons,List.map_nil]at b2;have x2:IntKind.i64.wrap 2=2:=by decide
  have x3:IntKind.i64.wrap 3=3:=by decide
  have x4:IntKind.i64.wrap 4=4:=by decide
  have x5:IntKind.i64.wrap 5=5:=by decide
  have x6:IntKind.i64.wrap 6=6:=by decide
  have x7:IntKind.i64.wrap 7=7:=by decide
  have x8:IntKind.i64.wrap 8=8:=by decide
  simp[hsz,e2,b2,e4,b4,t1,t2,t3,t4,t5,t6,t7,t8,zvf,S8.list,S8.add,x2,x3,x4,x5,x6,x7,x8]
 have hlen:=zen b 64;have hr:∀n,rnds b s0 (n+1)=rnd (rnds b s0 n) (kL.getD n 0) ((za3 b 64).getD n 0):=λ_=>rfl
 have hr0:rnds b s0 0=s0:=rfl
 have stD:∀e:Env,e.size=208->e.get 2=.one (.ptr 2 0)->e.box 2=some (s0.list.map WA)->e.get 4=.one (.ptr 4 0)->(∃cs,cs.length=8/\e.box 4=some cs)->e.get 5=.one (.ptr 5 0)->e.box 5=some ((za3 b 64).map WA)->
  Run cx q83c12 e [.fn [(.cell 4 116,116)] []]=some (.one (.ro (.agg (R.list.map W))),[]):=by
  intro e hsz e2 b2 e4 b4 e5 b5;generalize za3 b 64=ws at *;have b2':=b2;simp only[S8.list,List.map_cons,List.map_nil]at b2';simp[hsz,e2,b2',-z01]
  refine zam (λm e=> ∃i s,m=64-i/\i<=64/\e.size=208/\e.get 2=.one (.ptr 2 0)/\e.box 2=some (s0.list.map WA)/\e.get 4=.one (.ptr 4 0)/\(∃cs,cs.length=8/\e.box 4=some cs)/\e.get 5=.one (.ptr 5 0)/\e.box 5=some (ws.map WA)/\
   e.get 12=.one (WA s.a)/\e.get 13=.one (WA s.b)/\e.get 14=.one (WA s.c)/\e.get 15=.one (WA s.d)/\e.get 16=.one (WA s.e)/\e.get 17=.one (WA s.f)/\e.get 18=.one (WA s.g)/\e.get 19=.one (WA s.h)/\e.get 122=.one (.ro (N i))/\rnds b s0 i=s) ?_ 64 _
   ⟨0,s0,rfl,by omega,by simp[hsz],by simp[e2],by simp[b2],by simp[e4],by simpa using b4,by simp[e5],by simp[b5],by simp,by simp,by simp,by simp,by simp,by simp,by simp,by simp,by simp,hr0⟩
  clear hsz e2 b2 b2' e4 b4 e5 b5;rintro m e ⟨i,s,rfl,hi,hsz,e2,b2,e4,b4,e5,b5,e12,e13,e14,e15,e16,e17,e18,e19,e122,hs⟩ ih;by_cases hlt:i<64
  ·have hlt':(i:Int)<64:=by omega
   have hwi:IntKind.i64.wrap ((i:Int)+1)=((i+1:Nat):Int):=zah (by omega)
   have l5:i<ws.length:=by omega
   obtain⟨l6,hk⟩:=z6m i hlt;have hnext:=hr i;rw[hs,zb1 _ l5,zb1 _ l6]at hnext;unfold rnd at hnext;simp only[BitVec.add_assoc]at hnext;have hkw:((kL[i].toNat:Nat):Int)=wn kL[i]:=rfl;generalize kL[i]=kk at *;have t1:=znd s.e 6 6 rfl (by omega) (by omega)
   have t2:=znd s.e 11 11 rfl (by omega) (by omega)
   have t3:=znd s.e 25 25 rfl (by omega) (by omega)
   have t4:=znd s.a 2 2 rfl (by omega) (by omega)
   have t5:=znd s.a 13 13 rfl (by omega) (by omega)
   have t6:=znd s.a 22 22 rfl (by omega) (by omega)
   simp[hsz,e5,b5,e12,e13,e14,e15,e16,e17,e18,e19,e122,hlt',hlt,hwi,l5,hk,hkw,t1,t2,t3,t4,t5,t6];exact ih _ _ (by omega) ⟨i+1,_,rfl,by omega,by simp[hsz],by simp[e2],by simp[b2],by simp[e4],by simpa using b4,by simp[e5],by simp[b5],by simp[BitVec.add_assoc],by simp,by simp,by simp,by simp[BitVec.add_assoc],by simp,by simp,by simp,by simp,hnext⟩
  ·obtain rfl:i=64:=by omega
   simp[hsz,e122,-z01];refine stE _ (by simp[hsz]) (by simp[e2]) (by simp[b2]) (by simp[e4]) (by simpa using b4) ?_
   rintro r rfl;rw[hs];simp[e12,e13,e14,e15,e16,e17,e18,e19]
 have stC:∀(e:Env) (v0:List (BitVec 32)),e.size=208->e.get 2=.one (.ptr 2 0)->e.box 2=some (s0.list.map WA)->e.get 4=.one (.ptr 4 0)->(∃cs,cs.length=8/\e.box 4=some cs)->e.get 5=.one (.ptr 5 0)->e.box 5=some (v0.map WA)->v0.length=64->v0.take 16=za3 b 16->
  Run cx q83c13 e [.fn [(.cell 4 116,116)] []]=some (.one (.ro (.agg (R.list.map W))),[]):=by
  intro e v0 hsz e2 b2 e4 b4 e5 b5 hv0 ht0;simp[hsz,-z02]
  refine zam (λm e=> ∃i v,m=64-i/\16<=i/\i<=64/\e.size=208/\e.get 2=.one (.ptr 2 0)/\e.box 2=some (s0.list.map WA)/\e.get 4=.one (.ptr 4 0)/\(∃cs,cs.length=8/\e.box 4=some cs)/\e.get 5=.one (.ptr 5 0)/\e.box 5=some (v.map WA)/\v.length=64/\v.take i=za3 b i/\e.get 9=.one (.ro (N i))) ?_ 48 _
   ⟨16,v0,rfl,by omega,by omega,by simp[hsz],by simp[e2],by simp[b2],by simp[e4],by simpa using b4,by simp[e5],by simp[b5],hv0,ht0,by simp⟩
  clear hsz e2 b2 e4 b4 e5 b5 hv0 ht0 v0;rintro m e ⟨i,v,rfl,hi,hi2,hsz,e2,b2,e4,b4,e5,b5,hv,ht,e9⟩ ih;by_cases hlt:i<64
  ·have hlt':(i:Int)<64:=by omega
   have hwi:IntKind.i64.wrap ((i:Int)+1)=((i+1:Nat):Int):=zah (by omega)
   have hnew:=zmx ht.symm hi;unfold wnew at hnew;obtain⟨a,ha⟩:∃a,i-15=a:=⟨_,rfl⟩;obtain⟨b2',hb2⟩:∃a,i-2=a:=⟨_,rfl⟩;obtain⟨c,hc⟩:∃a,i-16=a:=⟨_,rfl⟩;obtain⟨d,hd⟩:∃a,i-7=a:=⟨_,rfl⟩;rw[ha,hb2,hc,hd]at hnew;have wa:IntKind.i64.wrap ((i:Int)-15)=(a:Int):=by rw[wrap64 (by omega) (by omega)];omega
   have wb:IntKind.i64.wrap ((i:Int)-2)=(b2':Int):=by rw[wrap64 (by omega) (by omega)];omega
   have wc:IntKind.i64.wrap ((i:Int)-16)=(c:Int):=by rw[wrap64 (by omega) (by omega)];omega
   have wd:IntKind.i64.wrap ((i:Int)-7)=(d:Int):=by rw[wrap64 (by omega) (by omega)];omega
   have la:a<v.length:=by omega
   have lb:b2' <v.length:=by omega
   have lc:c<v.length:=by omega
   have ld:d<v.length:=by omega
   have hi':i<v.length:=by omega
   have gt:∀j,j<i-> ∀hj:j<v.length,(v.take i).getD j 0=v[j]:=λj hj hjl=>by
    rw[zb1 0 (by simp;omega),List.getElem_take]
   rw[gt a (by omega) la,gt b2' (by omega) lb,gt c (by omega) lc,gt d (by omega) ld]at hnew
   have la':(a:Int)<64:=by omega
   have lb':(b2':Int)<64:=by omega
   have lc':(c:Int)<64:=by omega
   have ld':(d:Int)<64:=by omega
   have la2:a<64:=by omega
   have lb2:b2' <64:=by omega
   have lc2:c<64:=by omega
   have ld2:d<64:=by omega
   have t1:=znd v[a] 7 7 rfl (by omega) (by omega)
   have t2:=znd v[a] 18 18 rfl (by omega) (by omega)
   have t3:=znd v[b2'] 17 17 rfl (by omega) (by omega)
   have t4:=znd v[b2'] 19 19 rfl (by omega) (by omega)
   have hst:=λx=>zvx (x:=x) hi'
   have hi63:i<=63:=by omega
   simp[hsz,e5,b5,e9,hlt',hlt,hwi,wa,wb,wc,wd,la,lb,lc,ld,la',lb',lc',ld',la2,lb2,lc2,ld2,t1,t2,t3,t4,hv,hi63];exact ih _ _ (by omega) ⟨i+1,v.set i (v[c]+(rotr v[a] 7^^^rotr v[a] 18^^^v[a]>>>3)+v[d]+(rotr v[b2'] 17^^^rotr v[b2'] 19^^^v[b2']>>>10)),rfl,by omega,by omega,by simp[hsz],by simp[e2],by simp[b2],by simp[e4],by simpa using b4,by simp[e5],by simp[List.map_set],by simp[hv],by rw[hst,hnew],by simp⟩
  ·obtain rfl:i=64:=by omega
   simp[hsz,e9,-z02];rw[List.take_of_length_le (by omega)]at ht
   exact stD _ (by simp[hsz]) (by simp[e2]) (by simp[b2]) (by simp[e4]) (by simpa using b4) (by simp[e5]) (by simp[b5,ht])
 obtain⟨z64,hz64⟩:∃z:List A,z=(List.replicate 64 (0:BitVec 32)).map WA:=⟨_,rfl⟩
 have hz:z64=[.ro (.int .u32 0),.ro (.int .u32 0),.ro (.int .u32 0),.ro (.int .u32 0),.ro (.int .u32 0),.ro (.int .u32 0),.ro (.int .u32 0),.ro (.int .u32 0),.ro (.int .u32 0),.ro (.int .u32 0),.ro (.int .u32 0),.ro (.int .u32 0),.ro (.int .u32 0),.ro (.int .u32 0),.ro (.int .u32 0),.ro (.int .u32 0),
  .ro (.int .u32 0),.ro (.int .u32 0),.ro (.int .u32 0),.ro (.int .u32 0),.ro (.int .u32 0),.ro (.int .u32 0),.ro (.int .u32 0),.ro (.int .u32 0),.ro (.int .u32 0),.ro (.int .u32 0),.ro (.int .u32 0),.ro (.int .u32 0),.ro (.int .u32 0),.ro (.int .u32 0),.ro (.int .u32 0),.ro (.int .u32 0),
  .ro (.int .u32 0),.ro (.int .u32 0),.ro (.int .u32 0),.ro (.int .u32 0),.ro (.int .u32 0),.ro (.int .u32 0),.ro (.int .u32 0),.ro (.int .u32 0),.ro (.int .u32 0),.ro (.int .u32 0),.ro (.int .u32 0),.ro (.int .u32 0),.ro (.int .u32 0),.ro (.int .u32 0),.ro (.int .u32 0),.ro (.int .u32 0),
  .ro (.int .u32 0),.ro (.int .u32 0),.ro (.int .u32 0),.ro (.int .u32 0),.ro (.int .u32 0),.ro (.int .u32 0),.ro (.int .u32 0),.ro (.int .u32 0),.ro (.int .u32 0),.ro (.int .u32 0),.ro (.int .u32 0),.ro (.int .u32 0),.ro (.int .u32 0),.ro (.int .u32 0),.ro (.int .u32 0),.ro (.int .u32 0)]:=by rw[hz64];rfl
 have b2i:(s0.list.map W).map A.ro=s0.list.map WA:=by rw[List.map_map];rfl
 simp[zfn,-z03]
 refine zam (λm e=> ∃i v,m=16-i/\i<=16/\e.size=208/\e.get 1=.one (.ro (YS b))/\e.get 2=.one (.ptr 2 0)/\e.box 2=some (s0.list.map WA)/\e.get 4=.one (.ptr 4 0)/\(∃cs,cs.length=8/\e.box 4=some cs)/\e.get 5=.one (.ptr 5 0)/\e.box 5=some (v.map WA)/\v.length=64/\v.take i=za3 b i/\(∀j,i<=j->j<64->v.getD j 0=0)/\e.get 27=.one (.ro (N i))) ?_ 16 _
  ⟨0,List.replicate 64 0,rfl,by omega,by simp,by simp,by simp,by simp[b2i],by simp,⟨[.ro (.int .u32 0),.ro (.int .u32 0),.ro (.int .u32 0),.ro (.int .u32 0),.ro (.int .u32 0),.ro (.int .u32 0),.ro (.int .u32 0),.ro (.int .u32 0)],rfl,by simp⟩,by simp,by rw[<-hz64,hz];simp,by simp,rfl,λj _ hj=>by rw[zb1 0 (by rw[List.length_replicate];exact hj),List.getElem_replicate],by simp⟩
 clear hz64 hz z64 b2i;rintro m e ⟨i,v,rfl,hi,hsz,e1,e2,b2,e4,b4,e5,b5,hv,ht,hzero,e27⟩ ih;by_cases hlt:i<16
 ·have hlt':(i:Int)<16:=by omega
  have hwi:IntKind.i64.wrap ((i:Int)+1)=((i+1:Nat):Int):=zah (by omega)
  obtain⟨j0,hj0⟩:∃j,4*i=j:=⟨_,rfl⟩;obtain⟨j4,hj4⟩:∃j,j0+4=j:=⟨_,rfl⟩;have w1:IntKind.i64.wrap (4*(i:Int))=(j0:Int):=by rw[wrap64 (by omega) (by omega)];omega
  have w2:IntKind.i64.wrap ((j0:Int)+4)=(j4:Int):=by rw[wrap64 (by omega) (by omega)];omega
  have l1:(j0:Int)<=(j4:Int):=by omega
  have l2:j0<=j4:=by omega
  have l3:j4<=b.length:=by omega
  have l4:(j4:Int)<=(b.length:Int):=by omega
  have hsub:((b.take j4).drop j0).length=4:=by rw[List.length_drop,List.length_take];omega
  obtain⟨c,hc⟩:∃c,(b.take j4).drop j0=c:=⟨_,rfl⟩
  have hcg:∀k (hk:k<c.length),c[k]=b.getD (4*i+k) 0:=λk hk=>by
   subst hc;have h9:=z6o b j0 j4 k (by omega) l3 hk
   rw[hj0];exact h9
  have hcm:List.drop j0 (List.take j4 (b.map Y8))=c.map Y8:=by rw[<-hc,List.map_drop,List.map_take]
  rw[hc]at hsub;have hi':i<v.length:=by omega
  have hi64:(i:Int)<64:=by omega
  have hi64n:i<64:=by omega
  have hi63:i<=63:=by omega
  have mid:∀e:Env,e.size=208->e.get 1=.one (.ro (YS b))->e.get 2=.one (.ptr 2 0)->e.box 2=some (s0.list.map WA)->e.get 4=.one (.ptr 4 0)->(∃cs,cs.length=8/\e.box 4=some cs)->e.get 5=.one (.ptr 5 0)->e.box 5=some (v.map WA)->e.get 27=.one (.ro (N i))->
   e.get 6=.one (.ro (N i))->e.get 36=.one (.ro (.sl 1 (c.map Y8)))->e.get 37=.one (.ro (I 4))->e.get 38=.one (.ro (I 0))->
   Run cx (.loop q83l0) e [.blk 2,.blk 1,.seq q83c2,.loop q83l1,.blk 0,.seq q83c13,.fn [(.cell 4 116,116)] []]=some (.one (.ro (.agg (R.list.map W))),[]):=by
   intro e hsz e1 e2 b2 e4 b4 e5 b5 e27 e6 e36 e37 e38
   refine zam (λm e=> ∃j u,m=4-j/\j<=4/\e.size=208/\e.get 1=.one (.ro (YS b))/\e.get 2=.one (.ptr 2 0)/\e.box 2=some (s0.list.map WA)/\e.get 4=.one (.ptr 4 0)/\(∃cs,cs.length=8/\e.box 4=some cs)/\e.get 5=.one (.ptr 5 0)/\e.box 5=some (u.map WA)/\e.get 27=.one (.ro (N i))/\
    e.get 6=.one (.ro (N i))/\e.get 36=.one (.ro (.sl 1 (c.map Y8)))/\e.get 37=.one (.ro (I 4))/\e.get 38=.one (.ro (N j))/\u=v.set i (pw b i j)) ?_ 4 _
    ⟨0,v,rfl,by omega,hsz,e1,e2,b2,e4,b4,e5,b5,e27,e6,e36,e37,e38,by
     have h0:=hzero i (Nat.le_refl _) hi64n;rw[zb1 0 hi']at h0
     rw[pw,<-h0];simp⟩
   clear hsz e1 e2 b2 e4 b4 e5 b5 e27 e6 e36 e37 e38;rintro m e ⟨j,u,rfl,hj,hsz,e1,e2,b2,e4,b4,e5,b5,e27,e6,e36,e37,e38,hu⟩ ih2;have hul:u.length=64:=by rw[hu];simp[hv]
   have hui:i<u.length:=by omega
   by_cases hj4:j<4
   ·have hj4':(j:Int)<4:=by omega
    have hwj:IntKind.i64.wrap ((j:Int)+1)=((j+1:Nat):Int):=zah (by omega)
    have hjc:j<c.length:=by omega
    have hup:u[i]=pw b i j:=by subst hu;simp
    have hnext:u.set i (pw b i j<<<8|||bw c[j])=v.set i (pw b i (j+1)):=by
     subst hu;rw[List.set_set,pw,hcg j hjc]
    simp[hsz,e5,b5,e6,e36,e37,e38,hj4,hj4',hwj,hjc,hui,hi64,hi64n,hi63,hul,hup];exact ih2 _ _ (by omega) ⟨j+1,u.set i (pw b i j<<<8|||bw c[j]),rfl,by omega,by simp[hsz],by simp[e1],by simp[e2],by simp[b2],by simp[e4],by simpa using b4,by simp[e5],by simp[List.map_set],by simp[e27],by simp[e6],by simp[e36],by simp[e37],by simp,hnext⟩
   ·obtain rfl:j=4:=by omega
    simp[hsz,e37,e38,e27,hwi];refine ih _ _ (by omega) ⟨i+1,u,rfl,by omega,by simp[hsz],by simp[e1],by simp[e2],by simp[b2],by simp[e4],by simpa using b4,by simp[e5],by simp[b5],hul,?_,λk hk1 hk2=>?_,by simp⟩
    ·rw[hu,zvx hi',ht,z6n,za3,if_pos hlt]
    ·have:=hzero k (by omega) hk2
     rw[hu,List.getD_eq_getElem?_getD,List.getElem?_set_ne (by omega),<-List.getD_eq_getElem?_getD]
     exact this
  simp[hsz,e1,e27,hlt',hlt,w1,w2,l1,l2,l3,l4,hcm,-List.map_drop,-List.map_take];exact mid _ (by simp[hsz]) (by simp[e1]) (by simp[e2]) (by simp[b2]) (by simp[e4]) (by simpa using b4) (by simp[e5]) (by simp[b5]) (by simp[e27]) (by simp) (by simp[hcm]) (by simp[hsub]) (by simp)
 ·obtain rfl:i=16:=by omega
  simp[hsz,e27,-z03];exact stC _ v (by simp[hsz]) (by simp[e2]) (by simp[b2]) (by simp[e4]) (by simpa using b4) (by simp[e5]) (by simp[b5]) hv ht
end Go.Qz
namespace Go.Qz
open Go.Proofs
theorem zsc{a0:A}(ha:a0=.bnil 108∨a0=.selfp)(m:List UInt8)(b:UInt8)(h:m.length+1<=zaf):
 C Fn84 [.ptr 5000 0,.ro (Y8 b)] [(5000,[a0,.own (.bs 5 ⟨m.toArray⟩)])]=some (.one (.ro .nili),[(5000,[.selfp,.own (.bs 5 ⟨(m++[b]).toArray⟩)])]):=by
 refine zad Tryz.func84 Cv84 rfl ?_;have h1:=zn9 5000 (.own (.bs 5 ⟨m.toArray⟩)) (by decide)
 have h2:=zmn 5000 (.own (.bs 5 ⟨m.toArray⟩)) (by decide)
 have hb:=b.toNat_lt;have hb2:(b.toNat:Int)<256:=by omega
 have hb3:b.toNat<256:=by omega
 rcases ha with rfl|rfl
 ·simp[h1,hb2,hb3,h]
 ·simp[h2,hb2,hb3,h]
@[simp] theorem z6p(e:Env)(b t:Nat):(e.dropBox b).get t=(e.get t).mapA (A.killBox b):=(rfl)
@[simp] theorem z6q(e:Env)(b b':Nat):(e.dropBox b).box b' =if b' =b then none else e.box b':=(rfl)
@[simp] theorem z45(e:Env)(b:Nat):(e.dropBox b).size=e.size:=(rfl)
theorem z4t(v:BitVec 32):∀(j:Nat) (_:j<8),(figW v)[j]? =some (fig ((v>>>(4*(7-j))).toNat % 16))
 |0,_|1,_|2,_|3,_|4,_|5,_|6,_|7,_=>by simp[figW,BitVec.toNat_ushiftRight,Nat.shiftRight_eq_div_pow]
 |n+8,h=>by omega
set_option maxHeartbeats 8000000 in
set_option maxRecDepth 8000 in
theorem z47(R:S8)(e:Env)(hsz:e.size=70)(e3:e.get 3=.one (.ptr 3 0))(b3:e.box 3=some (R.list.map WA)):Run cx q38c10 e [.fn [(.tmp 2,9)] []]=some (.one (.ro (T (figW R.a++figW R.b))),[]):=by
 simp only[S8.list,List.map_cons,List.map_nil]at b3;obtain⟨l2,hl2⟩:∃l,l=[W R.a,W R.b]:=⟨_,rfl⟩;simp[hsz,e3,b3,-z7z,-Env.dropBox]
 refine zam (λm e=> ∃(i:Nat) (a0:A) (acc:List UInt8),m=2-i/\i<=2/\e.size=70/\e.get 8=.one (.ptr 8 0)/\e.box 8=some [a0,.own (.bs 5 ⟨acc.toArray⟩)]/\(a0=.bnil 108∨a0=.selfp)/\e.get 52=.one (.ro (.sl 1 l2))/\e.get 53=.one (.ro (I 2))/\e.get 54=.one (.ro (N i))/\acc=([figW R.a,figW R.b].take i).flatten) ?_ 2 _
  ⟨0,.bnil 108,[],rfl,by omega,by simp[hsz,-Env.dropBox],by simp[-Env.dropBox],by simp[-Env.dropBox];rfl,.inl rfl,by simp[hl2,-Env.dropBox],by simp[-Env.dropBox],by simp[-Env.dropBox],rfl⟩
 clear hsz e3 b3;rintro m e ⟨i,a0,acc,rfl,hi,hsz,e8,b8,ha0,e52,e53,e54,hacc⟩ ih;by_cases hlt:i<2
 ·have hlt':(i:Int)<2:=by omega
  have hwi:IntKind.i64.wrap ((i:Int)+1)=((i+1:Nat):Int):=zah (by omega)
  obtain⟨v,hv,hnext⟩:∃v,l2[i]? =some (W v)/\acc++figW v=([figW R.a,figW R.b].take (i+1)).flatten:=by
   match i,hlt,hacc with
   |0,_,hacc=>exact⟨R.a,by rw[hl2];rfl,by rw[hacc];simp⟩
   |1,_,hacc=>exact⟨R.b,by rw[hl2];rfl,by rw[hacc];simp⟩
  have hal:acc.length<=16:=by
   rw[hacc]
   match i,hlt with
   |0,_=>simp
   |1,_=>simp[figW]
  have mid:∀e:Env,e.size=70->e.get 8=.one (.ptr 8 0)->e.box 8=some [a0,.own (.bs 5 ⟨acc.toArray⟩)]->e.get 52=.one (.ro (.sl 1 l2))->e.get 53=.one (.ro (I 2))->e.get 54=.one (.ro (N i))->e.get 10=.one (.ro (W v))->e.get 11=.one (.ro (I 28))->
   Run cx (.loop q38l3) e [.blk 8,.blk 7,.seq q38c7,.loop q38l4,.blk 6,.seq q38c9,.fn [(.tmp 2,9)] []]=some (.one (.ro (T (figW R.a++figW R.b))),[]):=by
   intro e hsz e8 b8 e52 e53 e54 e10 e11
   refine zam (λm e=> ∃(j:Nat) (a1:A) (ac:List UInt8),m=8-j/\j<=8/\e.size=70/\e.get 8=.one (.ptr 8 0)/\e.box 8=some [a1,.own (.bs 5 ⟨ac.toArray⟩)]/\(a1=.bnil 108∨a1=.selfp)/\e.get 52=.one (.ro (.sl 1 l2))/\e.get 53=.one (.ro (I 2))/\e.get 54=.one (.ro (N i))/\e.get 10=.one (.ro (W v))/\
    e.get 11=.one (.ro (I (4*(((8-j:Nat):Int)-1))))/\ac=acc++(figW v).take j) ?_ 8 _
    ⟨0,a0,acc,rfl,by omega,hsz,e8,b8,ha0,e52,e53,e54,e10,e11,by simp⟩
   clear hsz e8 b8 e52 e53 e54 e10 e11;rintro m e ⟨j,a1,ac,rfl,hj,hsz,e8,b8,ha1,e52,e53,e54,e10,e11,hac⟩ ih2;by_cases hj8:j<8
   ·obtain⟨p,hp⟩:∃p,4*(7-j)=p:=⟨_,rfl⟩;have ep:4*(((8-j:Nat):Int)-1)=(p:Int):=by omega
    rw[ep]at e11;have n1:¬(p:Int)<0:=by omega
    have w9:IntKind.i64.wrap ((p:Int)-4)=4*(((8-(j+1):Nat):Int)-1):=by rw[wrap64 (by omega) (by omega)];omega
    have hg:=z4t v j hj8;rw[hp]at hg;obtain⟨q,hq⟩:∃q,(v>>>p).toNat % 16=q:=⟨_,rfl⟩;have hq16:q<16:=by rw[<-hq];exact Nat.mod_lt _ (by decide)
    rw[hq]at hg;have hw15:IntKind.u32.wrap (((wn (v>>>p) % 2^IntKind.u32.bits).toNat&&&15 % 2^IntKind.u32.bits:Nat):Int)=(q:Int):=by rw[w_15,hq]
    have f1:=zug q hq16;have hacl:ac.length<=24:=by rw[hac,List.length_append,List.length_take];simp[figW];omega
    have w1:=zsc ha1 ac (fig q) (by simp[zaf];omega)
    have hnx:ac++[fig q]=acc++(figW v).take (j+1):=by rw[hac,List.take_add_one,hg];simp
    rcases ha1 with rfl|rfl
    all_goals
     simp[hsz,e8,b8,e10,e11,n1,w9,hw15,f1,w1,-w_15];exact ih2 _ _ (by omega) ⟨j+1,.selfp,ac++[fig q],rfl,by omega,by simp[hsz],by simp[e8],by simp,.inr rfl,by simp[e52],by simp[e53],by simp[e54],by simp[e10],by simp,hnx⟩
   ·obtain rfl:j=8:=by omega
    have hfl:(figW v).take 8=figW v:=rfl;rw[hfl]at hac;simp[hsz,e11,e54,hwi];exact ih _ _ (by omega) ⟨i+1,a1,ac,rfl,by omega,by simp[hsz],by simp[e8],by simp[b8],ha1,by simp[e52],by simp[e53],by simp,by rw[hac];exact hnext⟩
  simp[hsz,e52,e53,e54,hlt',hlt,hv];exact mid _ (by simp[hsz]) (by simp[e8]) (by simp[b8]) (by simp[e52]) (by simp[e53]) (by simp[e54]) (by simp) (by simp)
 ·obtain rfl:i=2:=by omega
  have e4:=zub a0 acc;have hacc2:acc=figW R.a++figW R.b:=by rw[hacc];simp
  rw[hacc2]at b8 e4;rcases ha0 with rfl|rfl<;>simp[hsz,e53,e54,e8,b8,e4]
set_option maxHeartbeats 8000000 in
set_option maxRecDepth 8000 in
theorem z2d(bs:List UInt8)(k:Nat)(hpl:bs.length=64*k)(hpb:bs.length<=100000200)(e:Env)(hsz:e.size=70)(e3:e.get 3=.one (.ptr 3 0))(b3:e.box 3=some (h0.list.map WA))(e4:e.get 4=.one (.own (YS bs))):
 Run cx q38c11 e [.fn [(.tmp 2,9)] []]=some (.one (.ro (T (figW (blks bs k).a++figW (blks bs k).b))),[]):=by
 have hb:∀n,blks bs (n+1)=blk (blks bs n) ((bs.drop (64*n)).take 64):=λ_=>rfl
 have hb0:blks bs 0=h0:=rfl;simp[hsz,-ztt];refine zam (λm e=> ∃i s j,m=k-i/\i<=k/\e.size=70/\e.get 3=.one (.ptr 3 0)/\e.box 3=some (s.list.map WA)/\(e.get 4=.one (.own (YS bs))∨e.get 4=.one (.ro (YS bs)))/\j=64*i/\e.get 7=.one (.ro (N j))/\blks bs i=s) ?_ k _ ⟨0,h0,0,rfl,by omega,by simp[hsz],by simp[e3],by simp[b3],.inl (by simp[e4]),rfl,by simp,hb0⟩
 clear hsz e3 b3 e4;rintro m e ⟨i,s,j,rfl,hi,hsz,e3,b3,e4,hj,e7,hs⟩ ih;by_cases hlt:i<k
 ·have hlt':j<bs.length:=by omega
  obtain⟨j2,hj2⟩:∃q,j+64=q:=⟨_,rfl⟩;have w:IntKind.i64.wrap ((j:Int)+64)=(j2:Int):=by rw[wrap64 (by omega) (by omega)];omega
  have l2:j2<=bs.length:=by omega
  have l3:j<=j2:=by omega
  have hdt:(bs.drop (64*i)).take 64=(bs.take j2).drop j:=by rw[<-hj,List.drop_take];congr 1;omega
  have hsub:((bs.take j2).drop j).length=64:=by rw[List.length_drop,List.length_take];omega
  have hnext:=hb i;rw[hdt,hs]at hnext;have hbl:=z8n s ((bs.take j2).drop j) hsub;rw[<-hnext]at hbl;have e1:List.map Y8 ((bs.take j2).drop j)=List.drop j (List.take j2 (bs.map Y8)):=by rw[List.map_drop,List.map_take]
  simp only[YS,e1]at hbl;simp only[S8.list,List.map_cons,List.map_nil]at hbl b3;have l2':(j2:Int)<=bs.length:=by omega
  have l3':(j:Int)<=j2:=by omega
  rcases e4 with e4|e4
  ·simp[hsz,e3,b3,e4,e7,hlt',w,l2,l3,l2',l3',hbl];exact ih _ _ (by omega) ⟨i+1,blks bs (i+1),j2,rfl,by omega,by simp[hsz],by simp[e3],by simp[S8.list],.inr (by simp),by omega,by simp,rfl⟩
  ·simp[hsz,e3,b3,e4,e7,hlt',w,l2,l3,l2',l3',hbl];exact ih _ _ (by omega) ⟨i+1,blks bs (i+1),j2,rfl,by omega,by simp[hsz],by simp[e3],by simp[S8.list],.inr (by simp[e4]),by omega,by simp,rfl⟩
 ·obtain rfl:i=k:=by omega
  have hje:j=bs.length:=by omega
  subst hje;rw[<-hs]at b3;rcases e4 with e4|e4
  ·simp[hsz,e4,e7,-ztt];exact z47 _ _ (by simp[hsz]) (by simp[e3]) (by simp[b3])
  ·simp[hsz,e4,e7,-ztt];exact z47 _ _ (by simp[hsz]) (by simp[e3]) (by simp[b3])
set_option maxHeartbeats 8000000 in
set_option maxRecDepth 8000 in
theorem z6r(l:List UInt8)(hl:l.length<=100000000):C Fn38 [.ro (T l)] []=some (.one (.ro (T (sumT l))),[]):=by
 refine zad Tryz.func38 Cv38 rfl ?_;have hms:l.length<=zag:=by simp[zag];omega
 have hap:l.length+1<=zaf:=by simp[zaf];omega
 have hdb:za2 ⟨l.toArray⟩=l.map Y8:=by simp[za2]
 have hpl:=(zhj l).1
 have hpb:(zb4 l).length<=100000200:=by
  have:=(zhj l).2;simp[padZ]at this;omega
 have hfin:=z2d (zb4 l) ((zb4 l).length/64) hpl hpb;have hfin2:∀e:Env,e.size=70->e.get 3=.one (.ptr 3 0)->e.box 3=some (h0.list.map WA)->e.get 4=.one (.own (YS (zb4 l)))->Run cx q38c11 e [.fn [(.tmp 2,9)] []]=some (.one (.ro (T (sumT l))),[]):=hfin;clear hfin hpl hpb;rw[zr7]at hfin2;have hz:padZ l=padK l ((119-l.length % 64) % 64):=rfl;rw[hz]at hfin2;obtain⟨K,hK⟩:∃K,(119-l.length % 64) % 64=K:=⟨_,rfl⟩;rw[hK]at hfin2;generalize sumT l=res at *
 have go:∀(e:Env),e.size=70->e.get 0=.one (.ro (T l))->e.get 3=.one (.ptr 3 0)->e.box 3=some (h0.list.map WA)->e.get 4=.one (.own (YS (padK l K)))->Run cx q38c12 e [.fn [(.tmp 2,9)] []]=some (.one (.ro (T res)),[]):=by
  intro e hsz e0 e3 b3 e4;have hPl:=zk1 l K;generalize padK l K=P0 at *;have hw0:IntKind.u64.wrap (l.length:Int)=(l.length:Int):=by simp[IntKind.wrap,IntKind.signed,IntKind.bits];omega
  have hw:IntKind.u64.wrap ((l.length:Int)*8)=((8*l.length:Nat):Int):=by simp[IntKind.wrap,IntKind.signed,IntKind.bits];omega
  have hlb:=zvu .u64 rfl l.length;obtain⟨q,hq⟩:∃q,8*l.length=q:=⟨_,rfl⟩;rw[hq]at hw hlb;simp[hsz,e0,hw0,hw,-z0t];refine zam (λm e=> ∃j os,m=8-j/\j<=8/\e.size=70/\e.get 3=.one (.ptr 3 0)/\e.box 3=some (h0.list.map WA)/\e.get 4=.one (.own (YS (P0++os)))/\e.get 5=.one (.ro (.int .u64 (q:Int)))/\e.get 6=.one (.ro (I (8*(((8-j:Nat):Int)-1))))/\os=zg0 l.length j) ?_ 8 _ ⟨0,[],rfl,by omega,by simp[hsz],by simp[e3],by simp[b3],by simp[e4],by simp,by simp,rfl⟩
  clear hsz e0 e3 b3 e4;rintro m e ⟨j,os,rfl,hj,hsz,e3,b3,e4,e5,e6,ho⟩ ih;have hol:os.length=j:=by rw[ho,zj4]
  by_cases hlt:j<8
  ·obtain⟨i,hi⟩:∃i,7-j=i:=⟨_,rfl⟩;obtain⟨p,hp⟩:∃p,8*i=p:=⟨_,rfl⟩;have ej:8*(((8-j:Nat):Int)-1)=(p:Int):=by omega
   rw[ej]at e6;have w9:IntKind.i64.wrap ((p:Int)-8)=8*(((8-(j+1):Nat):Int)-1):=by rw[wrap64 (by omega) (by omega)];omega
   have n1:¬(p:Int)<0:=by omega
   have hap2:(P0++os).length+1<=zaf:=by simp[zaf];omega
   have hnew:os++[lenB l.length i]=zg0 l.length (j+1):=by rw[zg0,<-ho,hi]
   have hb:=hlb p i hp.symm (by omega)
   generalize hQ:P0++os=Q at *;simp[hsz,e4,e5,e6,w9,n1,hap2,hb];exact ih _ _ (by omega) ⟨j+1,os++[lenB l.length i],rfl,by omega,by simp[hsz],by simp[e3],by simp[b3],by simp[<-hQ],by simp[e5],by simp,hnew⟩
  ·obtain rfl:j=8:=by omega
   subst ho;simp[hsz,e6,-z0t];exact hfin2 _ (by simp[hsz]) (by simp[e3]) (by simp[b3]) (by simp[e4])
 have h0b:h0.list.map WA=[.ro (.int .u32 1779033703),.ro (.int .u32 3144134277),.ro (.int .u32 1013904242),.ro (.int .u32 2773480762),.ro (.int .u32 1359893119),.ro (.int .u32 2600822924),.ro (.int .u32 528734635),.ro (.int .u32 1541459225)]:=by simp[h0,S8.list,wn]
 simp[hms,hap,hdb,-z0u];refine zam (λm e=> ∃k,m=K-k/\k<=K/\e.size=70/\e.get 0=.one (.ro (T l))/\e.get 3=.one (.ptr 3 0)/\e.box 3=some (h0.list.map WA)/\e.get 4=.one (.own (YS (padK l k)))) ?_ K _ ⟨0,rfl,by omega,by simp,by simp,by simp,by rw[h0b];simp,by simp[padK]⟩
 rintro m e ⟨k,rfl,hk,hsz,e0,e3,b3,e4⟩ ih;have hPl:=zk1 l k;have hr:(((padK l k).length:Nat):Int).tmod 64=(((padK l k).length % 64:Nat):Int):=by rw[Int.ofNat_tmod];rfl
 by_cases h56:k=K
 ·subst h56;have h56':(padK l k).length % 64=56:=by omega
  rw[h56']at hr;generalize padK l k=P0 at *;simp[hsz,e4,hr,-z0u];exact go _ (by simp[hsz]) (by simp[e0]) (by simp[e3]) (by simp[b3]) (by simp[e4])
 ·have hne2:¬(padK l k).length % 64=56:=by omega
  have hs:=zr8 l k;have hap2:(padK l k).length+1<=zaf:=by simp[zaf];omega
  generalize padK l k=P0 at *;obtain⟨q,hq⟩:∃q,P0.length % 64=q:=⟨_,rfl⟩;rw[hq]at hr hne2;have hne3:(q==56)=false:=by simpa using hne2
  simp[hsz,e4,hr,hne2,hne3,hap2];exact ih _ _ (by omega) ⟨k+1,rfl,by omega,by simp[hsz],by simp[e0],by simp[e3],by simp[b3],by simp[hs]⟩
end Go.Qz
namespace Go.Qz
open Go.Proofs
theorem zkq{α:Type}{ys xs:List α}(h:ys.length=xs.length)(h':∀j,j<xs.length->ys[j]? =xs[j]?):ys=xs:=by
 apply List.ext_getElem?;intro j;rcases Nat.lt_or_ge j xs.length with hj|hj
 ·exact h' j hj
 ·rw[List.getElem?_eq_none hj,List.getElem?_eq_none (by omega)]
end Go.Qz
namespace Go.Qz
open Go.Proofs
theorem zsd(e:En):C Fn86 [.ro (ED e),.ro (ED e)] []=some (.one (.ro (.bool true)),[]):=by
 refine zad Tryz.func86 Cv86 rfl ?_;simp
theorem zpp(es:List En)(hn:es.length<=1048576):C Fn40 [.ro (ES es),.ro (ES es)] []=some (.one (.ro (.bool true)),[]):=by
 refine zad Tryz.func40 Cv40 rfl ?_;simp
 refine zam (λm e=> ∃i,m=es.length-i/\i<=es.length/\e.size=27/\e.get 0=.one (.ro (ES es))/\e.get 1=.one (.ro (ES es))/\e.get 5=.one (.ro (N i)))
  ?_ es.length _ ⟨0,rfl,Nat.zero_le _,by simp,by simp,by simp,by simp⟩
 rintro m e ⟨i,rfl,hi,hsz,h0,h1,h5⟩ ih;rcases Nat.lt_or_ge i es.length with hlt|hge
 ·have hwi:IntKind.i64.wrap ((i:Int)+1)=((i+1:Nat):Int):=zah (by omega)
  have hq:=zsd es[i];simp[hsz,h0,h1,h5,hlt,hwi,hq];exact ih _ _ (by omega) ⟨i+1,rfl,by omega,by simp[hsz],by simp[h0],by simp[h1],by simp⟩
 ·obtain rfl:i=es.length:=by omega
  simp[hsz,h0,h5]
theorem zui(e:Ne):C Fn85 [.ro (NeD e),.ro (NeD e)] []=some (.one (.ro (.bool true)),[]):=by
 refine zad Tryz.func85 Cv85 rfl ?_;simp
theorem zse(es:List Ne)(hn:es.length<=1048576):C Fn39 [.ro (NeS es),.ro (NeS es)] []=some (.one (.ro (.bool true)),[]):=by
 refine zad Tryz.func39 Cv39 rfl ?_;simp
 refine zam (λm e=> ∃i,m=es.length-i/\i<=es.length/\e.size=27/\e.get 0=.one (.ro (NeS es))/\e.get 1=.one (.ro (NeS es))/\e.get 5=.one (.ro (N i)))
  ?_ es.length _ ⟨0,rfl,Nat.zero_le _,by simp,by simp,by simp,by simp⟩
 rintro m e ⟨i,rfl,hi,hsz,h0,h1,h5⟩ ih;rcases Nat.lt_or_ge i es.length with hlt|hge
 ·have hwi:IntKind.i64.wrap ((i:Int)+1)=((i+1:Nat):Int):=zah (by omega)
  have hq:=zui es[i];simp[hsz,h0,h1,h5,hlt,hwi,hq];exact ih _ _ (by omega) ⟨i+1,rfl,by omega,by simp[hsz],by simp[h0],by simp[h1],by simp⟩
 ·obtain rfl:i=es.length:=by omega
  simp[hsz,h0,h5]
end Go.Qz
namespace Go.Qz
open Go.Proofs
theorem zx2(e:En):C Fn78 [.ro (ED e)] []=some (.one (.ro (ED e)),[]):=by
 refine zad Tryz.func78 Cv78 rfl ?_;simp
theorem z2e(e:Ne):C Fn77 [.ro (NeD e)] []=some (.one (.ro (NeD e)),[]):=by
 refine zad Tryz.func77 Cv77 rfl ?_;simp
theorem zuj(es:List En)(hn:es.length<=1048576):C Fn36 [.ro (ES es)] []=some (.one (.own (ES es)),[]):=by
 refine zad Tryz.func36 Cv36 rfl ?_;have ha:(es.length:Int)<=zaf:=by simp[zaf];omega
 simp[ha]
 refine zam (λm e=> ∃i yl,m=es.length-i/\i<=es.length/\e.size=23/\e.get 0=.one (.ro (ES es))/\e.get 3=.one (.own (ES yl))/\e.get 4=.one (.ro (N i))/\yl.length=es.length/\ ∀j,j<i->yl[j]? =es[j]?)
  ?_ es.length _ ⟨0,List.replicate es.length ⟨[],0,0,[]⟩,rfl,Nat.zero_le _,by simp,by simp,by simp,by simp,by simp,λj hj=>by omega⟩
 rintro m e ⟨i,yl,rfl,hi,hsz,h0,h3,h4,hyl,hy⟩ ih;rcases Nat.lt_or_ge i es.length with hlt|hge
 ·have hwi:IntKind.i64.wrap ((i:Int)+1)=((i+1:Nat):Int):=zah (by omega)
  have hlt':i<yl.length:=by omega
  have hto:=zx2 es[i];simp[hsz,h0,h3,h4,hlt,hlt',hwi,hto]
  exact ih _ _ (by omega) ⟨i+1,yl.set i es[i],rfl,by omega,by simp[hsz],by simp[h0],by simp[List.map_set],by simp,by simp[hyl],λj hj=>by
   by_cases e:j=i
   ·subst e;simp[hlt,hlt']
   ·rw[List.getElem?_set_ne (by omega)];exact hy j (by omega)⟩
 ·obtain rfl:i=es.length:=by omega
  obtain rfl:=zkq hyl hy;simp[hsz,h0,h3,h4]
theorem zx3(es:List Ne)(hn:es.length<=1048576):C Fn35 [.ro (NeS es)] []=some (.one (.own (NeS es)),[]):=by
 refine zad Tryz.func35 Cv35 rfl ?_;have ha:(es.length:Int)<=zaf:=by simp[zaf];omega
 simp[ha]
 refine zam (λm e=> ∃i yl,m=es.length-i/\i<=es.length/\e.size=23/\e.get 0=.one (.ro (NeS es))/\e.get 3=.one (.own (NeS yl))/\e.get 4=.one (.ro (N i))/\yl.length=es.length/\ ∀j,j<i->yl[j]? =es[j]?)
  ?_ es.length _ ⟨0,List.replicate es.length ⟨[],0,[]⟩,rfl,Nat.zero_le _,by simp,by simp,by simp,by simp,by simp,λj hj=>by omega⟩
 rintro m e ⟨i,yl,rfl,hi,hsz,h0,h3,h4,hyl,hy⟩ ih;rcases Nat.lt_or_ge i es.length with hlt|hge
 ·have hwi:IntKind.i64.wrap ((i:Int)+1)=((i+1:Nat):Int):=zah (by omega)
  have hlt':i<yl.length:=by omega
  have hto:=z2e es[i];simp[hsz,h0,h3,h4,hlt,hlt',hwi,hto]
  exact ih _ _ (by omega) ⟨i+1,yl.set i es[i],rfl,by omega,by simp[hsz],by simp[h0],by simp[List.map_set],by simp,by simp[hyl],λj hj=>by
   by_cases e:j=i
   ·subst e;simp[hlt,hlt']
   ·rw[List.getElem?_set_ne (by omega)];exact hy j (by omega)⟩
 ·obtain rfl:i=es.length:=by omega
  obtain rfl:=zkq hyl hy;simp[hsz,h0,h3,h4]
theorem z2f(p:Pk)(h1:p.needs.length<=1048576)(h2:p.tree.length<=1048576):C Fn9 [.ro (PkD p)] []=some (.one (.own (PkD p)),[]):=by
 refine zad Tryz.func9 Cv9 rfl ?_;simp[zx3 p.needs h1,zuj p.tree h2]
def szE(e:En)(l:Int):Int:=if l-e.path.length<0 then-1 else if l-e.path.length-e.text.length<0 then-1 else l-e.path.length-e.text.length
def szN(e:Ne)(l:Int):Int:=if l-e.name.length<0 then-1 else if l-e.name.length-e.ver.length<0 then-1 else l-e.name.length-e.ver.length
def szEs:List En->Int->Int
 | [],l=>l
 |e::r,l=>if szE e l<0 then-1 else szEs r (szE e l)
def szNs:List Ne->Int->Int
 | [],l=>l
 |e::r,l=>if szN e l<0 then-1 else szNs r (szN e l)
theorem z48(e:En)(l:Int)(hl:0<=l):szE e l<=l:=by unfold szE;split;omega;split<;>omega
theorem z49(e:Ne)(l:Int)(hl:0<=l):szN e l<=l:=by unfold szN;split;omega;split<;>omega
theorem zx4(e:En)(l:Int)(hl:0<=l)(hl2:l<=1048576)(h1:e.path.length<=140737488351232)(h2:e.text.length<=140737488351232):C Fn74 [.ro (ED e),.ro (I l)] []=some (.one (.ro (I (szE e l))),[]):=by
 refine zad Tryz.func74 Cv74 rfl ?_;have w1:IntKind.i64.wrap (l-e.path.length)=l-e.path.length:=wrap64 (by omega) (by omega)
 unfold szE;by_cases hA:l-e.path.length<0
 ·simp[w1,hA]
 ·have w2:IntKind.i64.wrap (l-e.path.length-e.text.length)=l-e.path.length-e.text.length:=wrap64 (by omega) (by omega)
  by_cases hB:l-e.path.length-e.text.length<0
  ·simp[w1,w2,hA,hB]
  ·simp[w1,w2,hA,hB]
theorem z2g(e:Ne)(l:Int)(hl:0<=l)(hl2:l<=1048576)(h1:e.name.length<=140737488351232)(h2:e.ver.length<=140737488351232):C Fn73 [.ro (NeD e),.ro (I l)] []=some (.one (.ro (I (szN e l))),[]):=by
 refine zad Tryz.func73 Cv73 rfl ?_;have w1:IntKind.i64.wrap (l-e.name.length)=l-e.name.length:=wrap64 (by omega) (by omega)
 unfold szN;by_cases hA:l-e.name.length<0
 ·simp[w1,hA]
 ·have w2:IntKind.i64.wrap (l-e.name.length-e.ver.length)=l-e.name.length-e.ver.length:=wrap64 (by omega) (by omega)
  by_cases hB:l-e.name.length-e.ver.length<0
  ·simp[w1,w2,hA,hB]
  ·simp[w1,w2,hA,hB]
theorem zuk(es:List En)(l:Int)(hl:0<=l)(hl2:l<=1048576)(hn:es.length<=140737488351232)(hb:∀e∈es,e.path.length<=140737488351232/\e.text.length<=140737488351232):
 C Fn33 [.ro (ES es),.ro (I l)] []=some (.one (.ro (I (if l-es.length<0 then-1 else szEs es (l-es.length)))),[]):=by
 refine zad Tryz.func33 Cv33 rfl ?_;have h1:IntKind.i64.wrap (l-es.length)=l-es.length:=wrap64 (by omega) (by omega)
 by_cases hneg:l-es.length<0
 ·simp[h1,hneg]
 ·simp[h1,hneg]
  refine zam (λm e=> ∃i l',m=es.length-i/\i<=es.length/\0<=l' /\l' <=1048576/\e.size=27/\e.get 0=.one (.ro (ES es))/\e.get 1=.one (.ro (I l'))/\e.get 5=.one (.ro (N i))/\
   szEs (es.drop i) l' =szEs es (l-es.length)) ?_ es.length _ ⟨0,l-es.length,rfl,Nat.zero_le _,by omega,by omega,by simp,by simp,by simp,by simp,rfl⟩
  rintro m e ⟨i,l',rfl,hi,hl0,hl1,hsz,h0,h1,h5,hr⟩ ih;rcases Nat.lt_or_ge i es.length with hlt|hge
  ·have hx:=hb es[i] (List.getElem_mem hlt);have hd:es.drop i=es[i]::es.drop (i+1):=List.drop_eq_getElem_cons hlt;have hs:=zx4 es[i] l' hl0 hl1 hx.1 hx.2;have hle:=z48 es[i] l' hl0;rw[hd,szEs]at hr;have hwi:IntKind.i64.wrap ((i:Int)+1)=((i+1:Nat):Int):=zah (by omega)
   generalize szE es[i] l' =q at *;by_cases hc:q<0
   ·rw[if_pos hc]at hr;simp[hsz,h0,h1,h5,hlt,hs,hc,<-hr]
   ·rw[if_neg hc]at hr;simp[hsz,h0,h1,h5,hlt,hs,hc,hwi];exact ih _ _ (by omega) ⟨i+1,_,rfl,by omega,by omega,by omega,by simp[hsz],by simp[h0],by simp,by simp,hr⟩
  ·obtain rfl:i=es.length:=by omega
   simp[szEs]at hr;simp[hsz,h0,h1,h5,hr]
theorem zx5(es:List Ne)(l:Int)(hl:0<=l)(hl2:l<=1048576)(hn:es.length<=140737488351232)(hb:∀e∈es,e.name.length<=140737488351232/\e.ver.length<=140737488351232):
 C Fn32 [.ro (NeS es),.ro (I l)] []=some (.one (.ro (I (if l-es.length<0 then-1 else szNs es (l-es.length)))),[]):=by
 refine zad Tryz.func32 Cv32 rfl ?_;have h1:IntKind.i64.wrap (l-es.length)=l-es.length:=wrap64 (by omega) (by omega)
 by_cases hneg:l-es.length<0
 ·simp[h1,hneg]
 ·simp[h1,hneg]
  refine zam (λm e=> ∃i l',m=es.length-i/\i<=es.length/\0<=l' /\l' <=1048576/\e.size=27/\e.get 0=.one (.ro (NeS es))/\e.get 1=.one (.ro (I l'))/\e.get 5=.one (.ro (N i))/\
   szNs (es.drop i) l' =szNs es (l-es.length)) ?_ es.length _ ⟨0,l-es.length,rfl,Nat.zero_le _,by omega,by omega,by simp,by simp,by simp,by simp,rfl⟩
  rintro m e ⟨i,l',rfl,hi,hl0,hl1,hsz,h0,h1,h5,hr⟩ ih;rcases Nat.lt_or_ge i es.length with hlt|hge
  ·have hx:=hb es[i] (List.getElem_mem hlt);have hd:es.drop i=es[i]::es.drop (i+1):=List.drop_eq_getElem_cons hlt;have hs:=z2g es[i] l' hl0 hl1 hx.1 hx.2;have hle:=z49 es[i] l' hl0;rw[hd,szNs]at hr;have hwi:IntKind.i64.wrap ((i:Int)+1)=((i+1:Nat):Int):=zah (by omega)
   generalize szN es[i] l' =q at *;by_cases hc:q<0
   ·rw[if_pos hc]at hr;simp[hsz,h0,h1,h5,hlt,hs,hc,<-hr]
   ·rw[if_neg hc]at hr;simp[hsz,h0,h1,h5,hlt,hs,hc,hwi];exact ih _ _ (by omega) ⟨i+1,_,rfl,by omega,by omega,by omega,by simp[hsz],by simp[h0],by simp,by simp,hr⟩
  ·obtain rfl:i=es.length:=by omega
   simp[szNs]at hr;simp[hsz,h0,h1,h5,hr]
def zpq(es:List Ne)(l:Int):Int:=if l-es.length<0 then-1 else szNs es (l-es.length)
def zul(es:List En)(l:Int):Int:=if l-es.length<0 then-1 else szEs es (l-es.length)
theorem zsf:∀(es:List Ne) (l:Int),0<=l->l<=1048576->0<=szNs es l->(∀e∈es,neSz e)/\szNs es l<=l
 | [],l,_,_,_=>⟨λe h=>by (cases h),Int.le_refl _⟩
 |e::r,l,hl,hl2,h=>by
  rw[szNs]at h ⊢;split at h
  ·omega
  ·rename_i hc;rw[if_neg hc];have h1:=z49 e l hl;obtain⟨k1,k2⟩:=zsf r (szN e l) (by omega) (by omega) h
   refine⟨λx hx=>?_,by omega⟩
   rcases List.mem_cons.1 hx with rfl|hx
   ·unfold szN at hc;split at hc
    ·omega
    ·split at hc
     ·omega
     ·exact⟨by omega,by omega⟩
   ·exact k1 x hx
theorem zsg:∀(es:List En) (l:Int),0<=l->l<=1048576->0<=szEs es l->(∀e∈es,enSz e)/\szEs es l<=l
 | [],l,_,_,_=>⟨λe h=>by (cases h),Int.le_refl _⟩
 |e::r,l,hl,hl2,h=>by
  rw[szEs]at h ⊢;split at h
  ·omega
  ·rename_i hc;rw[if_neg hc];have h1:=z48 e l hl;obtain⟨k1,k2⟩:=zsg r (szE e l) (by omega) (by omega) h
   refine⟨λx hx=>?_,by omega⟩
   rcases List.mem_cons.1 hx with rfl|hx
   ·unfold szE at hc;split at hc
    ·omega
    ·split at hc
     ·omega
     ·exact⟨by omega,by omega⟩
   ·exact k1 x hx
def szP(p:Pk)(l:Int):Int:=
 if l-p.name.length<0 then-1 else if l-p.name.length-p.ver.length<0 then-1
 else if zpq p.needs (l-p.name.length-p.ver.length)<0 then-1
 else if zul p.tree (zpq p.needs (l-p.name.length-p.ver.length))<0 then-1 else zul p.tree (zpq p.needs (l-p.name.length-p.ver.length))
structure z5a(p:Pk):Prop where
 name:p.name.length<=140737488351232
 ver:p.ver.length<=140737488351232
 needs:p.needs.length<=140737488351232
 tree:p.tree.length<=140737488351232
 need:∀e∈p.needs,e.name.length<=140737488351232/\e.ver.length<=140737488351232
 ent:∀e∈p.tree,e.path.length<=140737488351232/\e.text.length<=140737488351232
theorem zvy(es:List Ne)(l:Int)(hl:0<=l)(hl2:l<=1048576)(h:0<=zpq es l):zpq es l<=l/\es.length<=l/\ ∀e∈es,neSz e:=by
 unfold zpq at h ⊢;split at h
 ·omega
 ·rename_i hc;rw[if_neg hc];obtain⟨k1,k2⟩:=zsf es (l-es.length) (by omega) (by omega) h
  exact⟨by omega,by omega,k1⟩
theorem z4u(es:List En)(l:Int)(hl:0<=l)(hl2:l<=1048576)(h:0<=zul es l):zul es l<=l/\es.length<=l/\ ∀e∈es,enSz e:=by
 unfold zul at h ⊢;split at h
 ·omega
 ·rename_i hc;rw[if_neg hc];obtain⟨k1,k2⟩:=zsg es (l-es.length) (by omega) (by omega) h
  exact⟨by omega,by omega,k1⟩
theorem z2h(p:Pk)(l:Int)(hl:0<=l)(hl2:l<=1048576)(h:z5a p):C Fn7 [.ro (PkD p),.ro (I l)] []=some (.one (.ro (I (szP p l))),[]):=by
 refine zad Tryz.func7 Cv7 rfl ?_;have g1:=h.name;have g2:=h.ver;have w1:IntKind.i64.wrap (l-p.name.length)=l-p.name.length:=wrap64 (by omega) (by omega)
 unfold szP;by_cases hA:l-p.name.length<0
 ·simp[w1,hA]
 ·have w2:IntKind.i64.wrap (l-p.name.length-p.ver.length)=l-p.name.length-p.ver.length:=wrap64 (by omega) (by omega)
  by_cases hB:l-p.name.length-p.ver.length<0
  ·simp[w1,w2,hA,hB]
  ·have h3:C Fn32 [.ro (NeS p.needs),.ro (I (l-p.name.length-p.ver.length))] []=some (.one (.ro (I (zpq p.needs (l-p.name.length-p.ver.length)))),[]):=zx5 p.needs _ (by omega) (by omega) h.needs h.need
   have k3:=zvy p.needs (l-p.name.length-p.ver.length) (by omega) (by omega)
   generalize zpq p.needs (l-p.name.length-p.ver.length)=q at *;by_cases hC:q<0
   ·simp[w1,w2,hA,hB,h3,hC]
   ·have h4:C Fn33 [.ro (ES p.tree),.ro (I q)] []=some (.one (.ro (I (zul p.tree q))),[]):=zuk p.tree q (by omega) (by have:=(k3 (by omega)).1;omega) h.tree h.ent
    generalize zul p.tree q=z at *;by_cases hD:z<0
    ·simp[w1,w2,hA,hB,h3,h4,hC,hD]
    ·simp[w1,w2,hA,hB,h3,h4,hC,hD]
theorem z4v(p:Pk)(h:0<=szP p 1048576):p.name.length<=1048576/\p.ver.length<=1048576/\p.needs.length<=1048576/\p.tree.length<=1048576/\(∀e∈p.needs,neSz e)/\(∀e∈p.tree,enSz e):=by
 unfold szP at h;split at h
 ·omega
 ·split at h
  ·omega
  ·split at h
   ·omega
   ·split at h
    ·omega
    ·obtain⟨a1,a2,a3⟩:=zvy p.needs _ (by omega) (by omega) (by omega:0<=zpq p.needs ((1048576:Int)-p.name.length-p.ver.length))
     obtain⟨b1,b2,b3⟩:=z4u p.tree _ (by omega) (by omega) h
     exact⟨by omega,by omega,by omega,by omega,a3,b3⟩
end Go.Qz
namespace Go.Qz
open Go.Proofs
theorem zum(p:Pk)(h1:p.needs.length<=1048576)(h2:p.tree.length<=1048576):C Fn11 [.ro (PkD p),.ro (PkD p)] []=some (.one (.ro (.bool true)),[]):=by
 refine zad Tryz.func11 Cv11 rfl ?_;simp[zse p.needs h1,zpp p.tree h2]
end Go.Qz
namespace Go.Qz
open Go.Proofs
set_option maxHeartbeats 1000000 in
set_option maxRecDepth 4000 in
theorem zun(p:Pk)(hz:PkSz p)(F:zoi p):C Fn37 [.ro (PkD p)] []=some (.one (.ro (T (zey p))),[]):=by
 refine zad Tryz.func37 Cv37 rfl ?_;have h16:p.tree.length<=16:=(zbo F.tree).1;have hl:=zr6 p.tree hz.ent (by omega)
 rw[F.tree]at hl;simp only[if_true]at hl;have hlen:=zd6 p.tree (λe he=>⟨hz.ent e he,zd7 ((zbo F.tree).2 e he)⟩)
 have hlen2:p.tree.length*2097252<=16*2097252:=Nat.mul_le_mul_right _ h16;have h1:=(zje F.name).2;have h2:=(zk0 F.ver).2;have h6:=F.few;have hall:=F.needs;have hhead:=zpo F;have hneed:=λe he=>hz.need e he
 unfold zey zmz;unfold zmz at hhead;obtain⟨n,v,ns,tr⟩:=p;simp only at *;generalize zbx tr=L at *;have z1:5+n.length<=zag:=by unfold zag;omega
 have z2:n.length+1+1+1+1+1+1<=zag:=by unfold zag;omega
 have z3:n.length+1+1+1+1+1+1+v.length<=zag:=by unfold zag;omega
 have z4:n.length+(v.length+1)+1+1+1+1+1+1<=zag:=by unfold zag;omega
 have w0:=zhl (.inl rfl) [] (112::97::99::107::32::(n++32::(v++[10]))) (by simp[zaf];omega)
 rw[show (⟨([]:List UInt8).toArray⟩:ByteArray)=.empty from rfl]at w0
 simp[z1,z2,z3,z4,w0]
 refine zam (λm e=> ∃i acc,m=ns.length-i/\i<=ns.length/\e.size=34/\e.get 1=.one (.ptr 1 0)/\e.box 1=some [.ro (T n),.ro (T v),.ro (NeS ns),.ro (ES tr)]/\e.get 3=.one (.ptr 3 0)/\e.box 3=some [.selfp,.own (.bs 5 ⟨acc.toArray⟩)]/\e.get 16=.one (.ro (NeS ns))/\e.get 17=.one (.ro (N ns.length))/\e.get 18=.one (.ro (N i))/\
  acc=112::97::99::107::32::(n++32::(v++[10]))++zby (ns.take i)) ?_ ns.length _
  ⟨0,112::97::99::107::32::(n++32::(v++[10])),rfl,Nat.zero_le _,by simp,by simp,by simp,by simp,by simp,by simp,by simp,by simp,by simp[zby]⟩
 clear z1 z2 z3 z4 w0;rintro m e ⟨i,acc,rfl,hi,hsz,e1,b1,e3,b3,e16,e17,e18,ha⟩ ih
 have hal:acc.length<=800:=by
  have q:=zdy (ns.take i) (λe he=>hall e (List.mem_of_mem_take he))
  have q2:(ns.take i).length*98<=6*98:=Nat.mul_le_mul_right _ (by rw[List.length_take];omega)
  rw[ha,List.length_append];omega
 rcases Nat.lt_or_ge i ns.length with hlt|hge
 ·have hwi:IntKind.i64.wrap ((i:Int)+1)=((i+1:Nat):Int):=zah (by omega)
  have hmem:=List.getElem_mem hlt;have hp:=zuc ns[i] (hneed _ hmem) (hall _ hmem);have hn:=(zmu (hall _ hmem)).2;have hnext:acc++zex ns[i]=112::97::99::107::32::(n++32::(v++[10]))++zby (ns.take (i+1)):=by rw[zhy hlt,ha,List.append_assoc]
  unfold zex at hnext;generalize zm9 ns[i]=w at *;have z1:5+w.length<=zag:=by unfold zag;omega
  have z2:w.length+1+1+1+1+1+1<=zag:=by unfold zag;omega
  have w1:=zhl (.inr rfl) acc (110::101::101::100::32::(w++[10])) (by simp[zaf];omega)
  simp[hsz,e1,b1,e3,b3,e16,e17,e18,hlt,hwi,hp,z1,z2,w1];exact ih _ _ (by omega) ⟨i+1,acc++110::101::101::100::32::(w++[10]),rfl,by omega,by simp[hsz],by simp[e1],by simp[b1],by simp[e3],by simp,by simp[e16],by simp[e17],by simp,hnext⟩
 ·obtain rfl:i=ns.length:=by omega
  rw[List.take_length]at ha;have z1:1+L.length<=zag:=by unfold zag;omega
  have z2:L.length+1<=zag:=by unfold zag;omega
  have w1:=zhl (.inr rfl) acc (10::L) (by simp[zaf];omega)
  have e4:=zub .selfp (acc++10::L);simp[hsz,e1,b1,e3,b3,e17,e18,hl,z1,z2,w1,e4];rw[ha];simp
theorem zuo(p:Pk)(hz:PkSz p):C Fn10 [.ro (PkD p)] []=some (.one (.ro (T (zsa p))),[]):=by
 refine zad Tryz.func10 Cv10 rfl ?_;have hok:=zx1 p hz;unfold zsa
 cases ho:zf3 p with
 |false=>rw[ho]at hok;simp[hok]
 |true=>
  rw[ho]at hok;have F:=z2b ho;have h1:=zun p hz F;have hl:=zvw p hz F;have h2:=z6r (zey p) (by omega)
  have h3:=zvg (zey p);unfold z4r;simp only[if_true];generalize zey p=B at *;generalize sumT B=s at *;have z1:4+s.length<=zag:=by unfold zag;omega
  have z2:s.length+1+1+1+1+1<=zag:=by unfold zag;omega
  have z3:s.length+1+1+1+1+1+B.length<=zag:=by unfold zag;omega
  simp[hok,h1,h2,z1,z2,z3]
theorem zm0(p:Pk)(h:z5a p):C Fn3 [.ro (PkD p)] []=some (.one (.ro (.bool true)),[]):=by
 refine zad Tryz.func3 Cv3 rfl ?_;have hs:=z2h p 1048576 (by omega) (by omega) h
 by_cases hneg:szP p 1048576<0
 ·generalize szP p 1048576=q at *;simp[hs,hneg]
 ·obtain⟨a1,a2,a3,a4,a5,a6⟩:=z4v p (by omega)
  generalize szP p 1048576=q at *;have hto:=z2f p a3 a4;have hS:=zuh p ⟨a1,a2,a3,a4,a5,a6⟩;have hI:=zuo p ⟨a1,a2,a3,a4,a5,a6⟩;have heq:=zum p a3 a4;generalize zsa p=b at *;simp[hs,hneg,hto,hS,hI,heq]
end Go.Qz
