import Derived.Test.YtcadiohekccmiaaGreatDoorQYb0
import Derived.Test.YtcadiohekccmiaaGreatDoorQp0
namespace Go.Qz
open Go.Proofs
def two(l:List UInt8):List UInt8×List UInt8:=match brk 32 l with
 |some p=>p
 |none=>(l,[])
theorem zdl{n:List UInt8}(r:List UInt8)(h:∀c∈n,c≠32):two (n++32::r)=(n,r):=by
 unfold two;rw[zzf r h]
def zhk(c:UInt8):Bool:=c==61||c==60||c==62
def zgn(t:List UInt8):List UInt8:=t.takeWhile λc=> !zhk c
def zfz(t:List UInt8):List UInt8:=t.dropWhile λc=> !zhk c
def zbm(t:List UInt8):Int×List UInt8:=match t with
 | []=>(0,[])
 |c::v=>if c==61 then(1,v)else if c==60 then(3,v)else match v with
  |d::u=>if d==61 then(2,u)else(0,[])
  | []=>(0,[])
def ne0:Ne:=⟨[],0,[]⟩
def zg9(t:List UInt8):Ne:=⟨zgn t,(zbm (zfz t)).1,(zbm (zfz t)).2⟩
def zie(t:List UInt8):Ne×Bool:=if !(zfz t).isEmpty&&(zbm (zfz t)).1==0 then(ne0,false)else if za8 (zg9 t)then(zg9 t,true)else(ne0,false)
def zls(t:List UInt8):Ne×Bool:=(zg9 t,true)
theorem zk1{n s:List UInt8}(h:∀c∈n,c≠10/\c≠32/\c≠60/\c≠61/\c≠62)(hs:zfz s=s)(hs2:zgn s=[]):zgn (n++s)=n/\zfz (n++s)=s:=by
 have hp:∀c∈n,(!zhk c)=true:=λc hc=>by
  have:=h c hc;unfold zhk;simp[this]
 refine⟨?_,?_⟩
 ·unfold zgn at *;rw[List.takeWhile_append_of_pos hp,hs2,List.append_nil]
 ·unfold zfz at *;rw[List.dropWhile_append_of_pos hp,hs]
theorem zu5{e:Ne}(h:za8 e=true):zg9 (zdk e)=e/\zie (zdk e)=(e,true):=by
 obtain⟨hp,hv⟩:=zk0 h;have hf:=(zcc hp).1;obtain⟨n,k,v⟩:=e
 have key:zgn (zdk ⟨n,k,v⟩)=n/\zfz (zdk ⟨n,k,v⟩)=zd2 k++v/\zbm (zd2 k++v)=(k,v)/\((zd2 k++v)=[]∨k≠0):=by
  rcases hv with⟨rfl,rfl⟩|⟨rfl|rfl|rfl,_⟩
  ·obtain⟨h1,h2⟩:=zk1 (s:=[]) hf rfl rfl;exact⟨h1,h2,rfl,.inl rfl⟩
  ·obtain⟨h1,h2⟩:=zk1 (s:=61::v) hf rfl rfl;exact⟨h1,h2,rfl,.inr (by decide)⟩
  ·obtain⟨h1,h2⟩:=zk1 (s:=62::61::v) hf rfl rfl;exact⟨h1,h2,rfl,.inr (by decide)⟩
  ·obtain⟨h1,h2⟩:=zk1 (s:=60::v) hf rfl rfl;exact⟨h1,h2,rfl,.inr (by decide)⟩
 obtain⟨k1,k2,k3,k4⟩:=key
 have hS:zg9 (zdk ⟨n,k,v⟩)=⟨n,k,v⟩:=by
  unfold zg9;rw[k1,k2,k3]
 refine⟨hS,?_⟩;unfold zie;rw[hS,h,k2,k3,if_neg,if_pos rfl];rcases k4 with k4|k4
 ·rw[k4];simp
 ·simp[k4]
def rc0:Rc:=⟨[],[],[],[],[],[],[],[]⟩
def zdm(nd:List UInt8->Ne×Bool)(r:Rc)(l:List UInt8):Rc×Bool:=
 if (two l).1==kwName then({r with name:=(two l).2},true)
 else if (two l).1==kwVer then({r with ver:=(two l).2},true)
 else if (two l).1==zdo then({r with lets:=r.lets++[two (two l).2]},true)
 else if (two l).1==za3 then({r with builds:=r.builds++[(nd (two l).2).1]},(nd (two l).2).2)
 else if (two l).1==zcb then({r with runs:=r.runs++[(nd (two l).2).1]},(nd (two l).2).2)
 else if (two l).1==zb4 then({r with srcs:=r.srcs++[two (two l).2]},true)
 else if (two l).1==kwPc then({r with pcs:=r.pcs++[two (two l).2]},true)
 else if (two l).1==zay then({r with steps:=r.steps++[(two l).2]},true)
 else(r,false)
def zb5(nd:List UInt8->Ne×Bool):Rc->za2->Rc×Bool
 |r,[]=>(r,true)
 |r,l::ls=>if (zdm nd r l).2 then zb5 nd (zdm nd r l).1 ls else(rc0,false)
theorem zgo{nd:List UInt8->Ne×Bool}:∀{xs:za2} (ys:za2) {r r':Rc},zb5 nd r xs=(r',true)->zb5 nd r (xs++ys)=zb5 nd r' ys
 | [],ys,r,r',h=>by rw[zb5]at h;cases h;rfl
 |x::xs,ys,r,r',h=>by
  rw[zb5]at h;rw[List.cons_append,zb5];split at h
  ·rename_i h1;rw[if_pos h1];exact zgo ys h
  ·cases h
theorem zed{nd:List UInt8->Ne×Bool}{x:List UInt8}{xs:za2}{r r1 r':Rc}(h1:zdm nd r x=(r1,true))(h2:zb5 nd r1 xs=(r',true)):zb5 nd r (x::xs)=(r',true):=by
 rw[zb5,h1,if_pos rfl,h2]
theorem z6l(nd:List UInt8->Ne×Bool)(r:Rc)(x:List UInt8):zdm nd r (ln1 kwName x)=({r with name:=x},true):=by
 unfold zdm ln1;rw[zdl x (by decide)];rfl
theorem z9n(nd:List UInt8->Ne×Bool)(r:Rc)(x:List UInt8):zdm nd r (ln1 kwVer x)=({r with ver:=x},true):=by
 unfold zdm ln1;rw[zdl x (by decide)];rfl
theorem z9o(nd:List UInt8->Ne×Bool)(r:Rc)(f:Fl)(h:∀c∈f.1,c≠32):zdm nd r (ln2 zdo f)=({r with lets:=r.lets++[f]},true):=by
 unfold zdm ln2;rw[zdl _ (by decide),zdl _ h];rfl
theorem z9p(nd:List UInt8->Ne×Bool)(r:Rc)(f:Fl)(h:∀c∈f.1,c≠32):zdm nd r (ln2 zb4 f)=({r with srcs:=r.srcs++[f]},true):=by
 unfold zdm ln2;rw[zdl _ (by decide),zdl _ h];rfl
theorem ycs(nd:List UInt8->Ne×Bool)(r:Rc)(f:Fl)(h:∀c∈f.1,c≠32):zdm nd r (ln2 kwPc f)=({r with pcs:=r.pcs++[f]},true):=by
 unfold zdm ln2;rw[zdl _ (by decide),zdl _ h];rfl
theorem z6m(nd:List UInt8->Ne×Bool)(r:Rc)(x:List UInt8):zdm nd r (ln1 zay x)=({r with steps:=r.steps++[x]},true):=by
 unfold zdm ln1;rw[zdl x (by decide)];rfl
theorem z1v{nd:List UInt8->Ne×Bool}(r:Rc){e:Ne}(h:nd (zdk e)=(e,true)):zdm nd r (lnN za3 e)=({r with builds:=r.builds++[e]},true):=by
 unfold zdm lnN ln1;rw[zdl _ (by decide),h];rfl
theorem z9q{nd:List UInt8->Ne×Bool}(r:Rc){e:Ne}(h:nd (zdk e)=(e,true)):zdm nd r (lnN zcb e)=({r with runs:=r.runs++[e]},true):=by
 unfold zdm lnN ln1;rw[zdl _ (by decide),h];rfl
theorem zu6(nd:List UInt8->Ne×Bool):∀(fs:List Fl) (r:Rc),(∀f∈fs,∀c∈f.1,c≠32)->zb5 nd r (fs.map (ln2 zdo))=({r with lets:=r.lets++fs},true)
 | [],r,_=>by simp[zb5]
 |f::fs,r,h=>by
  rw[List.map_cons];have h2:=zu6 nd fs {r with lets:=r.lets++[f]} (λg hg=>h g (by simp[hg]))
  simp only[List.append_assoc,List.singleton_append]at h2;exact zed (z9o nd r f (h f (by simp))) h2
theorem zu7(nd:List UInt8->Ne×Bool):∀(fs:List Fl) (r:Rc),(∀f∈fs,∀c∈f.1,c≠32)->zb5 nd r (fs.map (ln2 zb4))=({r with srcs:=r.srcs++fs},true)
 | [],r,_=>by simp[zb5]
 |f::fs,r,h=>by
  rw[List.map_cons];have h2:=zu7 nd fs {r with srcs:=r.srcs++[f]} (λg hg=>h g (by simp[hg]))
  simp only[List.append_assoc,List.singleton_append]at h2;exact zed (z9p nd r f (h f (by simp))) h2
theorem zzr(nd:List UInt8->Ne×Bool):∀(fs:List Fl) (r:Rc),(∀f∈fs,∀c∈f.1,c≠32)->zb5 nd r (fs.map (ln2 kwPc))=({r with pcs:=r.pcs++fs},true)
 | [],r,_=>by simp[zb5]
 |f::fs,r,h=>by
  rw[List.map_cons];have h2:=zzr nd fs {r with pcs:=r.pcs++[f]} (λg hg=>h g (by simp[hg]))
  simp only[List.append_assoc,List.singleton_append]at h2;exact zed (ycs nd r f (h f (by simp))) h2
theorem zql(nd:List UInt8->Ne×Bool):∀(fs:za2) (r:Rc),zb5 nd r (fs.map (ln1 zay))=({r with steps:=r.steps++fs},true)
 | [],r=>by simp[zb5]
 |f::fs,r=>by
  rw[List.map_cons];have h2:=zql nd fs {r with steps:=r.steps++[f]}
  simp only[List.append_assoc,List.singleton_append]at h2;exact zed (z6m nd r f) h2
theorem zor{nd:List UInt8->Ne×Bool}:∀(fs:List Ne) (r:Rc),(∀f∈fs,nd (zdk f)=(f,true))->zb5 nd r (fs.map (lnN za3))=({r with builds:=r.builds++fs},true)
 | [],r,_=>by simp[zb5]
 |f::fs,r,h=>by
  rw[List.map_cons];have h2:=zor fs {r with builds:=r.builds++[f]} (λg hg=>h g (by simp[hg]))
  simp only[List.append_assoc,List.singleton_append]at h2;exact zed (z1v r (h f (by simp))) h2
theorem zu8{nd:List UInt8->Ne×Bool}:∀(fs:List Ne) (r:Rc),(∀f∈fs,nd (zdk f)=(f,true))->zb5 nd r (fs.map (lnN zcb))=({r with runs:=r.runs++fs},true)
 | [],r,_=>by simp[zb5]
 |f::fs,r,h=>by
  rw[List.map_cons];have h2:=zu8 fs {r with runs:=r.runs++[f]} (λg hg=>h g (by simp[hg]))
  simp only[List.append_assoc,List.singleton_append]at h2;exact zed (z9q r (h f (by simp))) h2
theorem zu9{nd:List UInt8->Ne×Bool}(hnd:∀e,za8 e=true->nd (zdk e)=(e,true)){r:Rc}(h:Fine r):zb5 nd rc0 (zel r)=(r,true):=by
 unfold zel;refine zed (z6l nd _ _) (zed (z9n nd _ _) ?_)
 have f1:∀f∈r.lets,∀c∈f.1,c≠32:=λf hf c hc=>by
  have:=h.lets.1 f hf;unfold letB at this;rw[Bool.and_eq_true]at this;exact((zcc this.1).1 c hc).2.1
 have f2:∀f∈r.srcs,∀c∈f.1,c≠32:=λf hf c hc=>((zru (h.srcs.1 f hf)).1 c hc).2
 have f3:∀f∈r.pcs,∀c∈f.1,c≠32:=λf hf c hc=>by
  have:=h.pcs.1 f hf;unfold pcOk at this;rw[Bool.and_eq_true]at this;exact((zcc this.1).1 c hc).2.1
 rw[zgo _ (zu6 nd _ _ f1),zgo _ (zor _ _ λf hf=>hnd f (h.builds.1 f hf)),zgo _ (zu8 _ _ λf hf=>hnd f (h.runs.1 f hf)),zgo _ (zu7 nd _ _ f2),zgo _ (zzr nd _ _ f3),zql]
 rfl
def getI(t:List UInt8):Rc×Bool:=
 if decide (t.length<=1500)&&t.getLast? ==some 10 then
  (if (zb5 zie rc0 (zav 10 t.dropLast)).2&&zuy (zb5 zie rc0 (zav 10 t.dropLast)).1==t then zb5 zie rc0 (zav 10 t.dropLast)else(rc0,false))
 else(rc0,false)
def getS(t:List UInt8):Rc×Bool:=
 if (zb5 zls rc0 ((zav 10 t).dropLast.take 60)).2&&(decide (t.length<=1500)&&(decide (zc6 (zb5 zls rc0 ((zav 10 t).dropLast.take 60)).1=0)&&putR (zb5 zls rc0 ((zav 10 t).dropLast.take 60)).1==t))then
  zb5 zls rc0 ((zav 10 t).dropLast.take 60)
 else(rc0,false)
def z9r(r:Rc)(t:List UInt8):Prop:=zc6 r=0/\putR r=t/\t.length<=1500
theorem zva{t:List UInt8}(h:(getI t).2=true):z9r (getI t).1 t:=by
 unfold getI at h ⊢;split at h
 ·rename_i h1;rw[if_pos h1];simp only[Bool.and_eq_true,decide_eq_true_eq,beq_iff_eq]at h1;split at h
  ·rename_i h2;rw[if_pos h2];simp only[Bool.and_eq_true,beq_iff_eq]at h2;have h3:=h2.2;unfold zuy at h3;split at h3
   ·rename_i h4;exact⟨h4,h3,h1.1⟩
   ·rw[<-h3]at h1;cases h1.2
  ·cases h
 ·cases h
theorem zzs{t:List UInt8}(h:(getI t).2=false):getI t=(rc0,false):=by
 unfold getI at h ⊢;split at h
 ·rename_i h1;rw[if_pos h1];split at h
  ·rename_i h2;rw[Bool.and_eq_true]at h2;rw[h2.1]at h;cases h
  ·rename_i h2;rw[if_neg h2]
 ·rename_i h1;rw[if_neg h1]
theorem z6n{t:List UInt8}(h:(getS t).2=true):z9r (getS t).1 t:=by
 unfold getS at h ⊢;split at h
 ·rename_i h1;rw[if_pos h1];simp only[Bool.and_eq_true,decide_eq_true_eq,beq_iff_eq]at h1;exact⟨h1.2.2.1,h1.2.2.2,h1.2.1⟩
 ·cases h
theorem z9s{t:List UInt8}(h:(getS t).2=false):getS t=(rc0,false):=by
 unfold getS at h ⊢;split at h
 ·rename_i h1;rw[Bool.and_eq_true]at h1;rw[h1.1]at h;cases h
 ·rename_i h1;rw[if_neg h1]
theorem z9t(r:Rc):∃body,body++[10]=putR r:=by
 have:∀xs:za2,xs≠[]-> ∃body,body++[10]=nlT xs:=by
  intro xs
  induction xs with
  |nil=>intro h;exact absurd rfl h
  |cons x r ih=>
   intro _;rw[zi0]
   cases r with
   |nil=>exact⟨x,by simp[nlT]⟩
   |cons y q=>
    obtain⟨b,hb⟩:=ih (by simp)
    exact⟨x++10::b,by rw[<-hb];simp⟩
 exact this _ (by unfold zel;simp)
theorem z6o{r:Rc}{t:List UInt8}(h:z9r r t):getI t=(r,true):=by
 obtain⟨h1,h2,h3⟩:=h;have hf:=zoq (zgm h1).1;obtain⟨body,hb⟩:=z9t r;have hc:=ycr hf hb;rw[h2]at hb
 have hbk:zb5 zie rc0 (zav 10 t.dropLast)=(r,true):=by
  rw[<-hb,List.dropLast_concat,hc];exact zu9 (λe he=>(zu5 he).2) hf
 unfold getI;rw[hbk,if_pos,if_pos]
 ·unfold zuy;rw[if_pos h1,h2];simp
 ·rw[<-hb]at h3 ⊢;simp at h3 ⊢;exact h3
theorem yct{r:Rc}{t:List UInt8}(h:z9r r t):getS t=(r,true):=by
 obtain⟨h1,h2,h3⟩:=h;have hf:=zoq (zgm h1).1
 have hc:zav 10 t=zel r++[[]]:=by
  rw[<-h2];exact zrw (b:=10) (xs:=zel r) (λx hx=>(zlr hf x hx).1)
 have hfew:=zu3 hf
 have hbk:zb5 zls rc0 ((zav 10 t).dropLast.take 60)=(r,true):=by
  rw[hc,List.dropLast_concat,List.take_of_length_le (by omega)]
  exact zu9 (λe he=>by unfold zls;rw[(zu5 he).1]) hf
 unfold getS;rw[hbk,if_pos];simp[h1,h2,h3]
theorem z9u(t:List UInt8):getI t=getS t:=by
 cases h1:(getI t).2 with
 |true=>
  have hg:=zva h1;rw[yct hg];exact z6o hg
 |false=>
  rw[zzs h1]
  cases h2:(getS t).2 with
  |true=>
   have hg:=z6n h2;rw[z6o hg]at h1;cases h1
  |false=>rw[z9s h2]
end Go.Qz
namespace Go.Qz
open Go.Proofs
theorem z6p(m l:List UInt8)(h:m.length+l.length<=zag):
 C 63 [.ptr 5000 0,.ro (T l)] [(5000,[.bnil 86,.own (.bs 5 ⟨m.toArray⟩)])]=some (.tup [.ro (N l.length),.ro .nili],[(5000,[.selfp,.own (.bs 5 ⟨(m++l).toArray⟩)])]):=by
 refine zae Tryz.func63 Cv63 rfl ?_;have hc:=z1d 5000 (.own (.bs 5 ⟨m.toArray⟩)) (by decide)
 simp[hc,h]
theorem z6q(m l:List UInt8)(h:m.length+l.length<=zag):
 C 63 [.ptr 5000 0,.ro (T l)] [(5000,[.selfp,.own (.bs 5 ⟨m.toArray⟩)])]=some (.tup [.ro (N l.length),.ro .nili],[(5000,[.selfp,.own (.bs 5 ⟨(m++l).toArray⟩)])]):=by
 refine zae Tryz.func63 Cv63 rfl ?_;have hc:=zxh 5000 (.own (.bs 5 ⟨m.toArray⟩)) (by decide)
 simp[hc,h]
theorem zzt{a0:A}(ha:a0=.bnil 86∨a0=.selfp)(m l:List UInt8)(h:m.length+l.length<=zag):
 C 63 [.ptr 5000 0,.ro (T l)] [(5000,[a0,.own (.bs 5 ⟨m.toArray⟩)])]=some (.tup [.ro (N l.length),.ro .nili],[(5000,[.selfp,.own (.bs 5 ⟨(m++l).toArray⟩)])]):=by
 rcases ha with rfl|rfl
 ·exact z6p m l h
 ·exact z6q m l h
theorem ycu(a0:A)(m:List UInt8):C 66 [.ptr 5000 0] [(5000,[a0,.own (.bs 5 ⟨m.toArray⟩)])]=some (.one (.ro (T m)),[(5000,[a0,.dead])]):=z5e 5000 a0 ⟨m.toArray⟩ (by decide)
end Go.Qz
namespace Go.Qz
open Go.Proofs
theorem z6r{fs:List Fl}(hf:zhj fs=true){l:List UInt8}(hl:zcg l=true):C Fn40 [.ro (FS fs),.ro (T l),.ro (.sl 1 [])] []=some (.tup [.ro (T (zeq fs l).2),.ro (N (zeq fs l).1)],[]):=by
 rw[zzo hf hl];exact zxr fs (zqh hf) (fs.length+1) [] l (zzl fs) (zol hl)
theorem z9v{fs:List Fl}(h:fs.all letB=true){i:Nat}(hi:i<fs.length):za1 fs[i].1=true:=by
 have:=List.all_eq_true.1 h _ (List.getElem_mem hi);unfold letB at this;simp only[Bool.and_eq_true]at this;exact this.1
set_option maxHeartbeats 2000000 in
theorem zos(r:Rc)(h:RcSz r):C Fn13 [.ro (RcD r)] []=some (.one (.ro (N (zc6 r))),[]):=by
 refine zae Tryz.func13 Cv13 rfl ?_;have h1:=z58 r h;have h2:=z1s r h;have hown:=z9l r h;unfold zc6
 cases hf:zec r with
 |false=>rw[hf]at h1;simp[h1]
 |true=>
  rw[hf]at h1;simp only[if_true]
  cases ht:zdq r with
  |true=>rw[ht]at h2;simp[h1,h2]
  |false=>
   rw[ht]at h2;simp only[Bool.false_eq_true,if_false];rw[ycq hf];obtain⟨p1,p2,p3,p4,p5,p6⟩:=ziz hf;have hfs:=zrs hf;generalize ownR r=fs at *
   have hst:∀i (hi:i<r.steps.length),C Fn40 [.ro (FS fs),.ro (T r.steps[i]),.ro (.sl 1 [])] []=some (.tup [.ro (T (zeq fs r.steps[i]).2),.ro (N (zeq fs r.steps[i]).1)],[]):=λi hi=>
    z6r hfs (List.all_eq_true.1 p5 _ (List.getElem_mem hi))
   have hrf:∀i (hi:i<r.lets.length),C Fn40 [.ro (FS fs),.ro (T (36::123::(r.lets[i].1++[125]))),.ro (.sl 1 [])] []=some (.tup [.ro (T (zeq fs (36::123::(r.lets[i].1++[125]))).2),.ro (N (zeq fs (36::123::(r.lets[i].1++[125]))).1)],[]):=λi hi=>
    z6r hfs (zuu (z9v p4 hi) [] [] rfl rfl (by simp))
   have go2:∀e:Env,e.size=61->e.get 1=.one (.ptr 1 0)->e.box 1=some (RB1 r)->Run cx q13c5 e [.fn [(.tmp 2,3)] []]=some (.one (.ro (N (chk fs r.steps))),[]):=by
    intro e hsz e1 b1;simp[hsz]
    refine zai (λm e=> ∃i,m=r.steps.length-i/\i<=r.steps.length/\e.size=61/\e.get 1=.one (.ptr 1 0)/\e.box 1=some (RB1 r)/\e.get 6=.one (.ro (N i))/\chk fs (r.steps.drop i)=chk fs r.steps)
     ?_ r.steps.length _ ⟨0,rfl,Nat.zero_le _,by simp[hsz],by simp[e1],by simp[b1],by simp,rfl⟩
    clear hsz e1 b1;rintro m e ⟨i,rfl,hi,hsz,e1,b1,e6,hr⟩ ih;rcases Nat.lt_or_ge i r.steps.length with hlt|hge
    ·have hd:r.steps.drop i=r.steps[i]::r.steps.drop (i+1):=List.drop_eq_getElem_cons hlt;have hwi:IntKind.i64.wrap ((i:Int)+1)=((i+1:Nat):Int):=zad (by omega)
     have hev:=hst i hlt;rw[hd,chk]at hr;generalize zeq fs r.steps[i]=xv at *;obtain⟨c,x⟩:=xv;simp only at hev hr;by_cases hc:c=0
     ·subst hc;rw[if_pos rfl]at hr;simp[hsz,e1,b1,e6,hlt,hwi,hown,hev];exact ih _ _ (by omega) ⟨i+1,rfl,by omega,by simp[hsz],by simp[e1],by simp[b1],by simp,hr⟩
     ·rw[if_neg hc]at hr;have hc':(c==0)=false:=by simpa using hc
      rw[<-hr];simp[hsz,e1,b1,e6,hlt,hown,hev,hc']
    ·obtain rfl:i=r.steps.length:=by omega
     rw[List.drop_length,chk]at hr;rw[<-hr];simp[hsz,e1,b1,e6]
   simp[h1,h2]
   refine zai (λm e=> ∃i,m=r.lets.length-i/\i<=r.lets.length/\e.size=61/\e.get 1=.one (.ptr 1 0)/\e.box 1=some (RB1 r)/\e.get 3=.one (.ro (N i))/\
    chk fs ((r.lets.drop i).map (λf=>refT f.1)++r.steps)=chk fs (r.lets.map (λf=>refT f.1)++r.steps)) ?_ r.lets.length _ ⟨0,rfl,Nat.zero_le _,by simp,by simp,by simp,by simp,rfl⟩
   rintro m e ⟨i,rfl,hi,hsz,e1,b1,e3,hr⟩ ih;rcases Nat.lt_or_ge i r.lets.length with hlt|hge
   ·have hd:r.lets.drop i=r.lets[i]::r.lets.drop (i+1):=List.drop_eq_getElem_cons hlt;have hwi:IntKind.i64.wrap ((i:Int)+1)=((i+1:Nat):Int):=zad (by omega)
    have hev:=hrf i hlt;have hz:=(h.letz _ (List.getElem_mem hlt)).1;have m1:2+r.lets[i].1.length<=zak:=by simp only[zak];omega
    have m2:r.lets[i].1.length+1+1+1<=zak:=by simp only[zak];omega
    rw[hd,List.map_cons,List.cons_append,chk,show refT r.lets[i].1=36::123::(r.lets[i].1++[125])from rfl]at hr
    generalize zeq fs (36::123::(r.lets[i].1++[125]))=xv at *;obtain⟨c,x⟩:=xv;simp only at hev hr;by_cases hc:c=0
    ·subst hc;rw[if_pos rfl]at hr;simp[hsz,e1,b1,e3,hlt,hwi,hown,hev,m1,m2];exact ih _ _ (by omega) ⟨i+1,rfl,by omega,by simp[hsz],by simp[e1],by simp[b1],by simp,hr⟩
    ·rw[if_neg hc]at hr;have hc':(c==0)=false:=by simpa using hc
     rw[<-hr];simp[hsz,e1,b1,e3,hlt,hown,hev,m1,m2,hc']
   ·obtain rfl:i=r.lets.length:=by omega
    rw[List.drop_length,List.map_nil,List.nil_append]at hr;rw[<-hr];simp[hsz,e1,b1,e3,-yec];exact go2 _ (by simp[hsz]) (by simp[e1]) (by simp[b1])
end Go.Qz
namespace Go.Qz
open Go.Proofs
theorem zvb(k:Int):C yjv [.ro (I k)] []=some (.one (.ro (T (zd2 k))),[]):=by
 refine zae Tryz.func162 yjx rfl ?_;unfold zd2;cases h1:k==1
 ·cases h2:k==2
  ·cases h3:k==3
   ·simp[h1,h2,h3]
   ·simp[h1,h2,h3]
  ·simp[h1,h2]
 ·simp[h1]
theorem zrx(e:Ne)(h:neSz e):C yh8 [.ro (NeD e)] []=some (.one (.ro (T (zdk e))),[]):=by
 refine zae Tryz.func130 yia rfl ?_;have h1:=zvb e.kind;have h2:=zuz e.kind;have h3:=h.1;have h4:=h.2;unfold zdk;generalize zd2 e.kind=s at *;have z1:e.name.length+s.length<=zak:=by unfold zak;omega
 have z2:e.name.length+s.length+e.ver.length<=zak:=by unfold zak;omega
 have z3:e.name.length+(s.length+e.ver.length)<=zak:=by unfold zak;omega
 simp[h1,z1,z2,z3]
theorem zot(e:Ne)(h:neSz e)(hok:za8 e=true):C Fn65 [.ro (NeD e)] []=some (.one (.ro (T (zdk e))),[]):=by
 refine zae Tryz.func65 Cv65 rfl ?_;have h1:=zez e h;rw[hok]at h1;have hv:=(zk0 hok).2;have h3:=h.1;have h4:=h.2;obtain⟨n,k,v⟩:=e;simp only at hv h3 h4;have z1:n.length+1<=zak:=by unfold zak;omega
 have z2:n.length+2<=zak:=by unfold zak;omega
 have z3:n.length+1+v.length<=zak:=by unfold zak;omega
 have z4:n.length+2+v.length<=zak:=by unfold zak;omega
 have z5:n.length+(v.length+1)<=zak:=by unfold zak;omega
 have z6:n.length+(v.length+1+1)<=zak:=by unfold zak;omega
 unfold zdk zd2;rcases hv with⟨rfl,rfl⟩|⟨rfl|rfl|rfl,_⟩<;>simp[h1,z1,z2,z3,z4,z5,z6]
theorem zou{a0:A}(ha:a0=.bnil 86∨a0=.selfp)(m w x:List UInt8)(h:m.length+(w.length+(x.length+2))<=1000000):
 C Fn62 [.ro (.sl 1 [T w,T x]),.ptr 5001 0] [(5001,[a0,.own (.bs 5 ⟨m.toArray⟩)])]=some (.tup [],[(5001,[.selfp,.own (.bs 5 ⟨(m++(ln1 w x++[10])).toArray⟩)])]):=by
 refine zae Tryz.func62 Cv62 rfl ?_;have hj:=z8p w x (by omega)
 have hl:(ln1 w x).length=w.length+(x.length+1):=by simp[ln1]
 rw[show w++32::x=ln1 w x from rfl]at hj
 generalize ln1 w x=l at *;have hw:=zzt ha m (l++[10]) (by simp[zag];omega)
 have z1:l.length+1<=zak:=by unfold zak;omega
 rcases ha with rfl|rfl<;>simp[hj,hw,z1]
theorem zx2{a0:A}(ha:a0=.bnil 86∨a0=.selfp)(m w:List UInt8)(f:Fl)(h:m.length+(w.length+(f.1.length+(f.2.length+3)))<=1000000):
 C Fn62 [.ro (.sl 1 [T w,T f.1,T f.2]),.ptr 5001 0] [(5001,[a0,.own (.bs 5 ⟨m.toArray⟩)])]=some (.tup [],[(5001,[.selfp,.own (.bs 5 ⟨(m++(ln2 w f++[10])).toArray⟩)])]):=by
 refine zae Tryz.func62 Cv62 rfl ?_;have hj:=z8q w f.1 f.2 (by omega)
 have hl:(ln2 w f).length=w.length+(f.1.length+(f.2.length+2)):=by simp[ln2];omega
 rw[show w++32::(f.1++32::f.2)=ln2 w f from rfl]at hj
 generalize ln2 w f=l at *;have hw:=zzt ha m (l++[10]) (by simp[zag];omega)
 have z1:l.length+1<=zak:=by unfold zak;omega
 rcases ha with rfl|rfl<;>simp[hj,hw,z1]
theorem zbk(xs:za2)(i:Nat):(nlT (xs.take i)).length<=(nlT xs).length:=by
 conv=>rhs;rw[<-List.take_append_drop i xs]
 rw[zby,List.length_append];omega
theorem zc1{α:Type}{xs:List α}{f:α->List UInt8}{i:Nat}(h:i<xs.length):nlT ((xs.map f).take (i+1))=nlT ((xs.map f).take i)++(f xs[i]++[10]):=by
 rw[z9m (by simpa using h),List.getElem_map]
theorem zha(w x:List UInt8):(ln1 w x).length=w.length+(x.length+1):=by simp[ln1]
theorem zlt(w:List UInt8)(f:Fl):(ln2 w f).length=w.length+(f.1.length+(f.2.length+2)):=by simp[ln2];omega
abbrev OB(m:List UInt8):List A:=[.selfp,.own (.bs 5 ⟨m.toArray⟩)]
theorem z9w(r:Rc)(h:RcSz r)(hf:Fine r)(m:List UInt8)(e:Env)(hm:m.length+(nlT (r.steps.map (ln1 zay))).length<=900000)(hsz:e.size=115)(e1:e.get 1=.one (.ptr 1 0))(b1:e.box 1=some (RB1 r))(e3:e.get 3=.one (.ptr 3 0))(e4:e.get 4=.one (.fn 62 [.ptr 3]))(b3:e.box 3=some (OB m)):
 Run cx q26c13 e [.fn [(.tmp 2,9)] []]=some (.one (.ro (T (m++nlT (r.steps.map (ln1 zay))))),[]):=by
 have hw:=h.steps;simp[hsz,e1,b1,-zwy]
 refine zai (λk e=> ∃i,k=r.steps.length-i/\i<=r.steps.length/\e.size=115/\e.get 1=.one (.ptr 1 0)/\e.box 1=some (RB1 r)/\e.get 3=.one (.ptr 3 0)/\e.get 4=.one (.fn 62 [.ptr 3])/\e.box 3=some (OB (m++nlT ((r.steps.map (ln1 zay)).take i)))/\e.get 103=.one (.ro (SS r.steps))/\e.get 104=.one (.ro (N r.steps.length))/\e.get 105=.one (.ro (N i)))
  ?_ r.steps.length _ ⟨0,rfl,Nat.zero_le _,by simp[hsz],by simp[e1],by simp[b1],by simp[e3],by simp[e4],by simp[b3,nlT],by simp,by simp,by simp⟩
 clear hsz e1 b1 e3 e4 b3;rintro k e ⟨i,rfl,hi,hsz,e1,b1,e3,e4,b3,es,el,ei⟩ ih;rcases Nat.lt_or_ge i r.steps.length with hlt|hge
 ·have hwi:IntKind.i64.wrap ((i:Int)+1)=((i+1:Nat):Int):=zad (by omega)
  have htk:=zc1 (f:=ln1 zay) hlt;have hle:=zbk (r.steps.map (ln1 zay)) (i+1);obtain⟨M2,hM2⟩:∃M2,M2=m++nlT ((r.steps.map (ln1 zay)).take (i+1)):=⟨_,rfl⟩;have hM2':M2=(m++nlT ((r.steps.map (ln1 zay)).take i))++((ln1 zay) r.steps[i]++[10]):=by rw[hM2,htk,List.append_assoc]
  have hlen:M2.length<=900000:=by rw[hM2,List.length_append];omega
  have hl2:=congrArg List.length hM2';simp only[List.length_append,List.length_singleton,zha]at hl2;have hput:=zou (a0:=.selfp) (.inr rfl) (m++nlT ((r.steps.map (ln1 zay)).take i)) zay r.steps[i] (by simp only[List.length_append];omega)
  rw[<-hM2']at hput;generalize m++nlT ((r.steps.map (ln1 zay)).take i)=M1 at *;simp[hsz,e1,b1,e4,b3,es,el,ei,hlt,hwi,hput];exact ih _ _ (by omega) ⟨i+1,rfl,by omega,by simp[hsz],by simp[e1],by simp[b1],by simp[e3],by simp[e4],by simp[<-hM2],by simp[es],by simp[el],by simp⟩
 ·obtain rfl:i=r.steps.length:=by omega
  rw[List.take_of_length_le (by simp)]at b3
  simp[hsz,el,ei,-zwy];have ht:=ycu .selfp (m++nlT (r.steps.map (ln1 zay)));generalize m++nlT (r.steps.map (ln1 zay))=M at *;simp[hsz,e3,b3,ht,zwy]
theorem z9x(r:Rc)(h:RcSz r)(hf:Fine r)(m:List UInt8)(e:Env)(hm:m.length+(nlT (r.pcs.map (ln2 kwPc)++(r.steps.map (ln1 zay)))).length<=900000)(hsz:e.size=115)(e1:e.get 1=.one (.ptr 1 0))(b1:e.box 1=some (RB1 r))(e3:e.get 3=.one (.ptr 3 0))(e4:e.get 4=.one (.fn 62 [.ptr 3]))(b3:e.box 3=some (OB m)):
 Run cx q26c14 e [.fn [(.tmp 2,9)] []]=some (.one (.ro (T (m++nlT (r.pcs.map (ln2 kwPc)++(r.steps.map (ln1 zay)))))),[]):=by
 have hw:=h.pcs;rw[zby]at hm ⊢;rw[List.length_append]at hm;simp[hsz,e1,b1,-z4k]
 refine zai (λk e=> ∃i,k=r.pcs.length-i/\i<=r.pcs.length/\e.size=115/\e.get 1=.one (.ptr 1 0)/\e.box 1=some (RB1 r)/\e.get 3=.one (.ptr 3 0)/\e.get 4=.one (.fn 62 [.ptr 3])/\e.box 3=some (OB (m++nlT ((r.pcs.map (ln2 kwPc)).take i)))/\e.get 88=.one (.ro (FS r.pcs))/\e.get 89=.one (.ro (N r.pcs.length))/\e.get 90=.one (.ro (N i)))
  ?_ r.pcs.length _ ⟨0,rfl,Nat.zero_le _,by simp[hsz],by simp[e1],by simp[b1],by simp[e3],by simp[e4],by simp[b3,nlT],by simp,by simp,by simp⟩
 clear hsz e1 b1 e3 e4 b3;rintro k e ⟨i,rfl,hi,hsz,e1,b1,e3,e4,b3,es,el,ei⟩ ih;rcases Nat.lt_or_ge i r.pcs.length with hlt|hge
 ·have hwi:IntKind.i64.wrap ((i:Int)+1)=((i+1:Nat):Int):=zad (by omega)
  have htk:=zc1 (f:=ln2 kwPc) hlt;have hle:=zbk (r.pcs.map (ln2 kwPc)) (i+1);obtain⟨M2,hM2⟩:∃M2,M2=m++nlT ((r.pcs.map (ln2 kwPc)).take (i+1)):=⟨_,rfl⟩;have hM2':M2=(m++nlT ((r.pcs.map (ln2 kwPc)).take i))++((ln2 kwPc) r.pcs[i]++[10]):=by rw[hM2,htk,List.append_assoc]
  have hlen:M2.length<=900000:=by rw[hM2,List.length_append];omega
  have hl2:=congrArg List.length hM2';simp only[List.length_append,List.length_singleton,zlt]at hl2;have hput:=zx2 (a0:=.selfp) (.inr rfl) (m++nlT ((r.pcs.map (ln2 kwPc)).take i)) kwPc r.pcs[i] (by simp only[List.length_append];omega)
  rw[<-hM2']at hput;generalize m++nlT ((r.pcs.map (ln2 kwPc)).take i)=M1 at *;simp[hsz,e1,b1,e4,b3,es,el,ei,hlt,hwi,hput];exact ih _ _ (by omega) ⟨i+1,rfl,by omega,by simp[hsz],by simp[e1],by simp[b1],by simp[e3],by simp[e4],by simp[<-hM2],by simp[es],by simp[el],by simp⟩
 ·obtain rfl:i=r.pcs.length:=by omega
  rw[List.take_of_length_le (by simp)]at b3
  simp[hsz,el,ei,-z4k];have:=z9w r h hf (m++nlT (r.pcs.map (ln2 kwPc)));rw[List.append_assoc]at this;exact this _ (by rw[List.length_append];omega) (by simp[hsz]) (by simp[e1]) (by simp[b1]) (by simp[e3]) (by simp[e4]) (by simp[b3])
theorem z9y(r:Rc)(h:RcSz r)(hf:Fine r)(m:List UInt8)(e:Env)(hm:m.length+(nlT (r.srcs.map (ln2 zb4)++(r.pcs.map (ln2 kwPc)++(r.steps.map (ln1 zay))))).length<=900000)(hsz:e.size=115)(e1:e.get 1=.one (.ptr 1 0))(b1:e.box 1=some (RB1 r))(e3:e.get 3=.one (.ptr 3 0))(e4:e.get 4=.one (.fn 62 [.ptr 3]))(b3:e.box 3=some (OB m)):
 Run cx q26c15 e [.fn [(.tmp 2,9)] []]=some (.one (.ro (T (m++nlT (r.srcs.map (ln2 zb4)++(r.pcs.map (ln2 kwPc)++(r.steps.map (ln1 zay))))))),[]):=by
 have hw:=h.srcs;rw[zby]at hm ⊢;rw[List.length_append]at hm;simp[hsz,e1,b1,-z4l]
 refine zai (λk e=> ∃i,k=r.srcs.length-i/\i<=r.srcs.length/\e.size=115/\e.get 1=.one (.ptr 1 0)/\e.box 1=some (RB1 r)/\e.get 3=.one (.ptr 3 0)/\e.get 4=.one (.fn 62 [.ptr 3])/\e.box 3=some (OB (m++nlT ((r.srcs.map (ln2 zb4)).take i)))/\e.get 73=.one (.ro (FS r.srcs))/\e.get 74=.one (.ro (N r.srcs.length))/\e.get 75=.one (.ro (N i)))
  ?_ r.srcs.length _ ⟨0,rfl,Nat.zero_le _,by simp[hsz],by simp[e1],by simp[b1],by simp[e3],by simp[e4],by simp[b3,nlT],by simp,by simp,by simp⟩
 clear hsz e1 b1 e3 e4 b3;rintro k e ⟨i,rfl,hi,hsz,e1,b1,e3,e4,b3,es,el,ei⟩ ih;rcases Nat.lt_or_ge i r.srcs.length with hlt|hge
 ·have hwi:IntKind.i64.wrap ((i:Int)+1)=((i+1:Nat):Int):=zad (by omega)
  have htk:=zc1 (f:=ln2 zb4) hlt;have hle:=zbk (r.srcs.map (ln2 zb4)) (i+1);obtain⟨M2,hM2⟩:∃M2,M2=m++nlT ((r.srcs.map (ln2 zb4)).take (i+1)):=⟨_,rfl⟩;have hM2':M2=(m++nlT ((r.srcs.map (ln2 zb4)).take i))++((ln2 zb4) r.srcs[i]++[10]):=by rw[hM2,htk,List.append_assoc]
  have hlen:M2.length<=900000:=by rw[hM2,List.length_append];omega
  have hl2:=congrArg List.length hM2';simp only[List.length_append,List.length_singleton,zlt]at hl2;have hput:=zx2 (a0:=.selfp) (.inr rfl) (m++nlT ((r.srcs.map (ln2 zb4)).take i)) zb4 r.srcs[i] (by simp only[List.length_append];omega)
  rw[<-hM2']at hput;generalize m++nlT ((r.srcs.map (ln2 zb4)).take i)=M1 at *;simp[hsz,e1,b1,e4,b3,es,el,ei,hlt,hwi,hput];exact ih _ _ (by omega) ⟨i+1,rfl,by omega,by simp[hsz],by simp[e1],by simp[b1],by simp[e3],by simp[e4],by simp[<-hM2],by simp[es],by simp[el],by simp⟩
 ·obtain rfl:i=r.srcs.length:=by omega
  rw[List.take_of_length_le (by simp)]at b3
  simp[hsz,el,ei,-z4l];have:=z9x r h hf (m++nlT (r.srcs.map (ln2 zb4)));rw[List.append_assoc]at this;exact this _ (by rw[List.length_append];omega) (by simp[hsz]) (by simp[e1]) (by simp[b1]) (by simp[e3]) (by simp[e4]) (by simp[b3])
theorem z9z(r:Rc)(h:RcSz r)(hf:Fine r)(m:List UInt8)(e:Env)(hm:m.length+(nlT (r.runs.map (lnN zcb)++(r.srcs.map (ln2 zb4)++(r.pcs.map (ln2 kwPc)++(r.steps.map (ln1 zay)))))).length<=900000)(hsz:e.size=115)(e1:e.get 1=.one (.ptr 1 0))(b1:e.box 1=some (RB1 r))(e3:e.get 3=.one (.ptr 3 0))(e4:e.get 4=.one (.fn 62 [.ptr 3]))(b3:e.box 3=some (OB m)):
 Run cx q26c16 e [.fn [(.tmp 2,9)] []]=some (.one (.ro (T (m++nlT (r.runs.map (lnN zcb)++(r.srcs.map (ln2 zb4)++(r.pcs.map (ln2 kwPc)++(r.steps.map (ln1 zay)))))))),[]):=by
 have hw:=h.runs;rw[zby]at hm ⊢;rw[List.length_append]at hm;simp[hsz,e1,b1,-z4m]
 refine zai (λk e=> ∃i,k=r.runs.length-i/\i<=r.runs.length/\e.size=115/\e.get 1=.one (.ptr 1 0)/\e.box 1=some (RB1 r)/\e.get 3=.one (.ptr 3 0)/\e.get 4=.one (.fn 62 [.ptr 3])/\e.box 3=some (OB (m++nlT ((r.runs.map (lnN zcb)).take i)))/\e.get 60=.one (.ro (NeS r.runs))/\e.get 61=.one (.ro (N r.runs.length))/\e.get 62=.one (.ro (N i)))
  ?_ r.runs.length _ ⟨0,rfl,Nat.zero_le _,by simp[hsz],by simp[e1],by simp[b1],by simp[e3],by simp[e4],by simp[b3,nlT],by simp,by simp,by simp⟩
 clear hsz e1 b1 e3 e4 b3;rintro k e ⟨i,rfl,hi,hsz,e1,b1,e3,e4,b3,es,el,ei⟩ ih;rcases Nat.lt_or_ge i r.runs.length with hlt|hge
 ·have hwi:IntKind.i64.wrap ((i:Int)+1)=((i+1:Nat):Int):=zad (by omega)
  have htk:=zc1 (f:=lnN zcb) hlt;have hle:=zbk (r.runs.map (lnN zcb)) (i+1);obtain⟨M2,hM2⟩:∃M2,M2=m++nlT ((r.runs.map (lnN zcb)).take (i+1)):=⟨_,rfl⟩;have hM2':M2=(m++nlT ((r.runs.map (lnN zcb)).take i))++((lnN zcb) r.runs[i]++[10]):=by rw[hM2,htk,List.append_assoc]
  have hlen:M2.length<=900000:=by rw[hM2,List.length_append];omega
  have hl2:=congrArg List.length hM2';simp only[List.length_append,List.length_singleton,lnN,zha]at hl2;have hnd:=zot r.runs[i] (h.run _ (List.getElem_mem hlt)) (hf.runs.1 _ (List.getElem_mem hlt));have hput:=zou (a0:=.selfp) (.inr rfl) (m++nlT ((r.runs.map (lnN zcb)).take i)) zcb (zdk r.runs[i]) (by simp only[List.length_append];omega)
  rw[show ln1 zcb (zdk r.runs[i])=lnN zcb r.runs[i]from rfl]at hput
  rw[<-hM2']at hput;generalize m++nlT ((r.runs.map (lnN zcb)).take i)=M1 at *;simp[hsz,e1,b1,e4,b3,es,el,ei,hlt,hwi,hput,hnd];exact ih _ _ (by omega) ⟨i+1,rfl,by omega,by simp[hsz],by simp[e1],by simp[b1],by simp[e3],by simp[e4],by simp[<-hM2],by simp[es],by simp[el],by simp⟩
 ·obtain rfl:i=r.runs.length:=by omega
  rw[List.take_of_length_le (by simp)]at b3
  simp[hsz,el,ei,-z4m];have:=z9y r h hf (m++nlT (r.runs.map (lnN zcb)));rw[List.append_assoc]at this;exact this _ (by rw[List.length_append];omega) (by simp[hsz]) (by simp[e1]) (by simp[b1]) (by simp[e3]) (by simp[e4]) (by simp[b3])
theorem z90(r:Rc)(h:RcSz r)(hf:Fine r)(m:List UInt8)(e:Env)(hm:m.length+(nlT (r.builds.map (lnN za3)++(r.runs.map (lnN zcb)++(r.srcs.map (ln2 zb4)++(r.pcs.map (ln2 kwPc)++(r.steps.map (ln1 zay))))))).length<=900000)(hsz:e.size=115)(e1:e.get 1=.one (.ptr 1 0))(b1:e.box 1=some (RB1 r))(e3:e.get 3=.one (.ptr 3 0))(e4:e.get 4=.one (.fn 62 [.ptr 3]))(b3:e.box 3=some (OB m)):
 Run cx q26c17 e [.fn [(.tmp 2,9)] []]=some (.one (.ro (T (m++nlT (r.builds.map (lnN za3)++(r.runs.map (lnN zcb)++(r.srcs.map (ln2 zb4)++(r.pcs.map (ln2 kwPc)++(r.steps.map (ln1 zay))))))))),[]):=by
 have hw:=h.builds;rw[zby]at hm ⊢;rw[List.length_append]at hm;simp[hsz,e1,b1,-z4n]
 refine zai (λk e=> ∃i,k=r.builds.length-i/\i<=r.builds.length/\e.size=115/\e.get 1=.one (.ptr 1 0)/\e.box 1=some (RB1 r)/\e.get 3=.one (.ptr 3 0)/\e.get 4=.one (.fn 62 [.ptr 3])/\e.box 3=some (OB (m++nlT ((r.builds.map (lnN za3)).take i)))/\e.get 47=.one (.ro (NeS r.builds))/\e.get 48=.one (.ro (N r.builds.length))/\e.get 49=.one (.ro (N i)))
  ?_ r.builds.length _ ⟨0,rfl,Nat.zero_le _,by simp[hsz],by simp[e1],by simp[b1],by simp[e3],by simp[e4],by simp[b3,nlT],by simp,by simp,by simp⟩
 clear hsz e1 b1 e3 e4 b3;rintro k e ⟨i,rfl,hi,hsz,e1,b1,e3,e4,b3,es,el,ei⟩ ih;rcases Nat.lt_or_ge i r.builds.length with hlt|hge
 ·have hwi:IntKind.i64.wrap ((i:Int)+1)=((i+1:Nat):Int):=zad (by omega)
  have htk:=zc1 (f:=lnN za3) hlt;have hle:=zbk (r.builds.map (lnN za3)) (i+1);obtain⟨M2,hM2⟩:∃M2,M2=m++nlT ((r.builds.map (lnN za3)).take (i+1)):=⟨_,rfl⟩;have hM2':M2=(m++nlT ((r.builds.map (lnN za3)).take i))++((lnN za3) r.builds[i]++[10]):=by rw[hM2,htk,List.append_assoc]
  have hlen:M2.length<=900000:=by rw[hM2,List.length_append];omega
  have hl2:=congrArg List.length hM2';simp only[List.length_append,List.length_singleton,lnN,zha]at hl2;have hnd:=zot r.builds[i] (h.bld _ (List.getElem_mem hlt)) (hf.builds.1 _ (List.getElem_mem hlt));have hput:=zou (a0:=.selfp) (.inr rfl) (m++nlT ((r.builds.map (lnN za3)).take i)) za3 (zdk r.builds[i]) (by simp only[List.length_append];omega)
  rw[show ln1 za3 (zdk r.builds[i])=lnN za3 r.builds[i]from rfl]at hput
  rw[<-hM2']at hput;generalize m++nlT ((r.builds.map (lnN za3)).take i)=M1 at *;simp[hsz,e1,b1,e4,b3,es,el,ei,hlt,hwi,hput,hnd];exact ih _ _ (by omega) ⟨i+1,rfl,by omega,by simp[hsz],by simp[e1],by simp[b1],by simp[e3],by simp[e4],by simp[<-hM2],by simp[es],by simp[el],by simp⟩
 ·obtain rfl:i=r.builds.length:=by omega
  rw[List.take_of_length_le (by simp)]at b3
  simp[hsz,el,ei,-z4n];have:=z9z r h hf (m++nlT (r.builds.map (lnN za3)));rw[List.append_assoc]at this;exact this _ (by rw[List.length_append];omega) (by simp[hsz]) (by simp[e1]) (by simp[b1]) (by simp[e3]) (by simp[e4]) (by simp[b3])
set_option maxHeartbeats 1000000 in
theorem z91(r:Rc)(h:RcSz r)(hf:Fine r)(e:Env)(hm:(putR r).length<=900000)(hsz:e.size=115)(e1:e.get 1=.one (.ptr 1 0))(b1:e.box 1=some (RB1 r)):
 Run cx q26c18 e [.fn [(.tmp 2,9)] []]=some (.one (.ro (T (putR r))),[]):=by
 have hw:=h.lets
 have hP:putR r=(ln1 kwName r.name++[10])++(ln1 kwVer r.ver++[10])++(nlT (r.lets.map (ln2 zdo))++nlT (r.builds.map (lnN za3)++(r.runs.map (lnN zcb)++(r.srcs.map (ln2 zb4)++(r.pcs.map (ln2 kwPc)++(r.steps.map (ln1 zay))))))):=by
  unfold putR zel;rw[zi0,zi0,zby];simp
 rw[hP]at hm ⊢;have hk1:kwName.length=4:=rfl;have hk2:kwVer.length=7:=rfl;simp only[List.length_append,List.length_singleton,zha]at hm;have p1:=zou (a0:=.bnil 86) (.inl rfl) [] kwName r.name (by simp;omega)
 have p2:=zou (a0:=.selfp) (.inr rfl) (ln1 kwName r.name++[10]) kwVer r.ver (by simp only[List.length_append,List.length_singleton,zha];omega)
 rw[List.nil_append]at p1;rw[show (⟨([]:List UInt8).toArray⟩:ByteArray)=ByteArray.empty from rfl]at p1
 obtain⟨m,hmm⟩:∃m,m=(ln1 kwName r.name++[10])++(ln1 kwVer r.ver++[10]):=⟨_,rfl⟩;have hml:m.length+((nlT (r.lets.map (ln2 zdo))).length+(nlT (r.builds.map (lnN za3)++(r.runs.map (lnN zcb)++(r.srcs.map (ln2 zb4)++(r.pcs.map (ln2 kwPc)++(r.steps.map (ln1 zay))))))).length)<=900000:=by rw[hmm];simp only[List.length_append,List.length_singleton,zha];omega
 rw[<-hmm]at p2 ⊢;replace hm:=hml;generalize ln1 kwName r.name++[10]=m0 at *;clear hmm hP hml;simp[hsz,e1,b1,p1,p2,zmx,zr9,-z4o]
 refine zai (λk e=> ∃i,k=r.lets.length-i/\i<=r.lets.length/\e.size=115/\e.get 1=.one (.ptr 1 0)/\e.box 1=some (RB1 r)/\e.get 3=.one (.ptr 3 0)/\e.get 4=.one (.fn 62 [.ptr 3])/\e.box 3=some (OB (m++nlT ((r.lets.map (ln2 zdo)).take i)))/\e.get 32=.one (.ro (FS r.lets))/\e.get 33=.one (.ro (N r.lets.length))/\e.get 34=.one (.ro (N i)))
  ?_ r.lets.length _ ⟨0,rfl,Nat.zero_le _,by simp[hsz],by simp[e1],by simp[b1],by simp,by simp,by simp[nlT],by simp,by simp,by simp⟩
 clear hsz e1 b1 p1 p2;rintro k e ⟨i,rfl,hi,hsz,e1,b1,e3,e4,b3,es,el,ei⟩ ih;rcases Nat.lt_or_ge i r.lets.length with hlt|hge
 ·have hwi:IntKind.i64.wrap ((i:Int)+1)=((i+1:Nat):Int):=zad (by omega)
  have htk:=zc1 (f:=ln2 zdo) hlt;have hle:=zbk (r.lets.map (ln2 zdo)) (i+1);obtain⟨M2,hM2⟩:∃M2,M2=m++nlT ((r.lets.map (ln2 zdo)).take (i+1)):=⟨_,rfl⟩;have hM2':M2=(m++nlT ((r.lets.map (ln2 zdo)).take i))++((ln2 zdo) r.lets[i]++[10]):=by rw[hM2,htk,List.append_assoc]
  have hlen:M2.length<=900000:=by rw[hM2,List.length_append];omega
  have hl2:=congrArg List.length hM2';simp only[List.length_append,List.length_singleton,zlt]at hl2;have hput:=zx2 (a0:=.selfp) (.inr rfl) (m++nlT ((r.lets.map (ln2 zdo)).take i)) zdo r.lets[i] (by simp only[List.length_append];omega)
  rw[<-hM2']at hput;generalize m++nlT ((r.lets.map (ln2 zdo)).take i)=M1 at *;simp[hsz,e1,b1,e4,b3,es,el,ei,hlt,hwi,hput];exact ih _ _ (by omega) ⟨i+1,rfl,by omega,by simp[hsz],by simp[e1],by simp[b1],by simp[e3],by simp[e4],by simp[<-hM2],by simp[es],by simp[el],by simp⟩
 ·obtain rfl:i=r.lets.length:=by omega
  rw[List.take_of_length_le (by simp)]at b3
  simp[hsz,el,ei,-z4o];have:=z90 r h hf (m++nlT (r.lets.map (ln2 zdo)));rw[List.append_assoc]at this;exact this _ (by rw[List.length_append];omega) (by simp[hsz]) (by simp[e1]) (by simp[b1]) (by simp[e3]) (by simp[e4]) (by simp[b3])
theorem zry(r:Rc)(h:RcSz r):C Fn26 [.ro (RcD r)] []=some (.one (.ro (T (zuy r))),[]):=by
 refine zae Tryz.func26 Cv26 rfl ?_;have h1:=zop r h;unfold zuy;by_cases hc:zc6 r=0
 ·rw[if_pos hc];rw[hc]at h1;have hf:=zoq (zgm hc).1;have hl:=zzq hf;simp[h1,-ybx];exact z91 r h hf _ (by omega) (by simp) (by simp) (by simp)
 ·rw[if_neg hc];have hc':(zc6 r==0)=false:=by simpa using hc
  generalize zc6 r=c at *;simp[h1,hc']
end Go.Qz
namespace Go.Qz
open Go.Proofs
theorem z6s:∀t:List UInt8,(zfz t=[]/\zgn t=t/\Lib.indexAny t [61,60,62]= -1)∨ ∃c v,zfz t=c::v/\zhk c=true/\t=zgn t++c::v/\Lib.indexAny t [61,60,62]=(zgn t).length
 | []=>.inl ⟨rfl,rfl,rfl⟩
 |b::l=>by
  have hcon:[61,60,62].contains b=zhk b:=by
   unfold zhk;rw[Bool.eq_iff_iff];simp[or_assoc]
  unfold Lib.indexAny;rw[hcon]
  cases hb:zhk b with
  |true=>exact .inr ⟨b,l,by simp[zfz,hb],hb,by simp[zgn,hb],by simp[zgn,hb]⟩
  |false=>
   have e1:zgn (b::l)=b::zgn l:=by simp[zgn,hb]
   have e2:zfz (b::l)=zfz l:=by simp[zfz,hb]
   rcases z6s l with⟨h1,h2,h3⟩|⟨c,v,h1,h2,h3,h4⟩
   ·exact .inl ⟨by rw[e2,h1],by rw[e1,h2],by rw[h3];rfl⟩
   ·refine .inr ⟨c,v,by rw[e2,h1],h2,by rw[e1,List.cons_append,<-h3],?_⟩
    have hn:(((zgn l).length:Int)== -1)=false:=by rw[beq_eq_false_iff_ne];omega
    rw[h4,e1,hn];simp
def preB(d:List UInt8):Bool:=match d with
 |c::e::_=>c==62&&e==61
 |_=>false
theorem z1w(d:List UInt8)(hn:d.length<=1048576):C yb4 [.ro (T d),.ro (T [62,61])] []=some (.one (.ro (.bool (preB d))),[]):=by
 refine zae Tryz.func192 yb5 rfl ?_
 cases d with
 |nil=>simp[preB]
 |cons c r=>
  cases r with
  |nil=>simp[preB]
  |cons e q=>
   have f2:(2:Int)<=(q.length:Int)+1+1:=by omega
   cases hc:c==62<;>cases he:e==61<;>simp[preB,f2,hc,he]
theorem z6t(d:List UInt8)(hn:d.length<=1048576):C yjz [.ro (T d),.ro (T [62,61])] []=some (.one (.ro (.bool (preB d))),[]):=by
 refine zae Tryz.func171 yj1 rfl ?_;simp[z1w d hn]
theorem zx3(t:List UInt8)(h:t.length<=1048576):C yil [.ro (T t)] []=some (.tup [.ro (NeD (zie t).1),.ro (.bool (zie t).2)],[]):=by
 refine zae Tryz.func138 yin rfl ?_;have hA:=yev t (by omega)
 unfold zie zg9;rcases z6s t with⟨h1,h2,h3⟩|⟨c,v,h1,h2,h3,h4⟩
 ·rw[h3]at hA;rw[h1,h2];have hok:=zez ⟨t,0,[]⟩ ⟨h,by simp⟩
  simp only[zbm,List.isEmpty_nil,Bool.not_true,Bool.false_and,Bool.false_eq_true,if_false];rcases Bool.eq_false_or_eq_true (za8 ⟨t,0,[]⟩)with hq|hq<;>rw[hq]at hok<;>simp[hA,hok,ne0,hq]
 ·rw[h4]at hA;rw[h1];generalize zgn t=a at *;subst h3;have hal:a.length<=1048576:=by simp at h;omega
  have hvl:v.length+1<=1048576:=by simp at h;omega
  have hpre:=z6t (c::v) (by simp;omega)
  have b1:(a.length:Int)<=(a.length:Int)+((v.length:Int)+1):=by omega
  have hdr:List.drop a.length (List.take (a.length+(v.length+1)) (a++c::v))=c::v:=by rw[List.take_of_length_le (by simp),List.drop_left]
  unfold zhk at h2;rcases(by simpa [Bool.or_eq_true]using h2:(c=61∨c=60)∨c=62)with(rfl|rfl)|rfl
  ·have hok:=zez ⟨a,1,v⟩ ⟨hal,by show v.length<=_;omega⟩
   rw[show preB (61::v)=false by cases v<;>rfl]at hpre
   simp only[zbm,beq_self_eq_true,if_true];rcases Bool.eq_false_or_eq_true (za8 ⟨a,1,v⟩)with hq|hq<;>rw[hq]at hok<;>simp[hA,hok,ne0,hpre,b1,hdr,hq]
  ·have hok:=zez ⟨a,3,v⟩ ⟨hal,by show v.length<=_;omega⟩
   rw[show preB (60::v)=false by cases v<;>rfl]at hpre
   simp only[zbm,beq_self_eq_true,if_true,show ((60:UInt8)==61)=false from rfl,Bool.false_eq_true,if_false]
   rcases Bool.eq_false_or_eq_true (za8 ⟨a,3,v⟩)with hq|hq<;>rw[hq]at hok<;>simp[hA,hok,ne0,hpre,b1,hdr,hq]
  ·simp only[zbm,show ((62:UInt8)==61)=false from rfl,show ((62:UInt8)==60)=false from rfl,Bool.false_eq_true,if_false]
   cases v with
   |nil=>
    rw[show preB [62]=false from rfl]at hpre
    simp only[List.length_nil,Nat.zero_add]at hdr;have b3:(a.length:Int)<=(a.length:Int)+1:=by omega
    simp[hA,ne0,hpre,b3,hdr]
   |cons d u=>
    simp only[List.length_cons]at hdr;have b3:(a.length:Int)<=(a.length:Int)+((u.length:Int)+1+1):=by omega
    cases hd:d==61 with
    |true=>
     have hd':d=61:=by simpa using hd
     subst hd';have hok:=zez ⟨a,2,u⟩ ⟨hal,by show u.length<=_;simp at hvl;omega⟩
     rw[show preB (62::61::u)=true from rfl]at hpre
     have b2:(2:Int)<=(u.length:Int)+1+1:=by omega
     simp only[beq_self_eq_true,if_true];rcases Bool.eq_false_or_eq_true (za8 ⟨a,2,u⟩)with hq|hq<;>rw[hq]at hok<;>simp[hA,hok,ne0,hpre,b1,b2,b3,hdr,hq]
    |false=>
     rw[show preB (62::d::u)=false by simp[preB,hd]]at hpre
     have hd2:¬d=61:=by simpa using hd
     simp[hA,ne0,hpre,b3,hdr,hd2]
theorem z6u(rest:List UInt8)(k:Nat)(hk:1<=k)(hk3:k<=3)(hs:∀c v,rest=c::v->zhk c=true):
 ((zd2 k).length<=rest.length/\rest.take (zd2 k).length=zd2 k)↔(zbm rest).1=k:=by
 have hc3:k=1∨k=2∨k=3:=by omega
 cases rest with
 |nil=>rcases hc3 with rfl|rfl|rfl<;>simp[zd2,zbm]
 |cons c v=>
  have h2:=hs c v rfl;unfold zhk at h2;rcases(by simpa [Bool.or_eq_true]using h2:(c=61∨c=60)∨c=62)with(rfl|rfl)|rfl
  ·rcases hc3 with rfl|rfl|rfl<;>simp[zd2,zbm]
  ·rcases hc3 with rfl|rfl|rfl<;>simp[zd2,zbm]
  ·cases v with
   |nil=>rcases hc3 with rfl|rfl|rfl<;>simp[zd2,zbm]
   |cons d u=>
    cases hd:d==61<;>rcases hc3 with rfl|rfl|rfl<;>simp_all[zd2,zbm]
theorem z6v(rest:List UInt8)(k:Nat)(hk:1<=k)(hk3:k<=3)(hs:∀c v,rest=c::v->zhk c=true)(h:(zbm rest).1=k):rest.drop (zd2 k).length=(zbm rest).2:=by
 have hc3:k=1∨k=2∨k=3:=by omega
 cases rest with
 |nil=>rcases hc3 with rfl|rfl|rfl<;>simp[zd2,zbm]
 |cons c v=>
  have h2:=hs c v rfl;unfold zhk at h2;rcases(by simpa [Bool.or_eq_true]using h2:(c=61∨c=60)∨c=62)with(rfl|rfl)|rfl
  ·rcases hc3 with rfl|rfl|rfl<;>simp_all[zd2,zbm]
  ·rcases hc3 with rfl|rfl|rfl<;>simp_all[zd2,zbm]
  ·cases v with
   |nil=>rcases hc3 with rfl|rfl|rfl<;>simp_all[zd2,zbm]
   |cons d u=>
    cases hd:d==61<;>rcases hc3 with rfl|rfl|rfl<;>simp_all[zd2,zbm]
theorem z6w(rest:List UInt8):(zbm rest).1=0/\(zbm rest).2=[]∨(zbm rest).1=1∨(zbm rest).1=2∨(zbm rest).1=3:=by
 unfold zbm;split
 ·simp
 ·split
  ·simp
  ·split
   ·simp
   ·split
    ·split<;>simp
    ·simp
def okS(t:List UInt8):Bool:=za8 (zg9 t)&&(zdk (zg9 t)==t)
theorem zzu(t:List UInt8):t=zgn t++zfz t:=(List.takeWhile_append_dropWhile).symm
theorem z6x(s:List UInt8):(zbm s).2.length<=s.length:=by
 unfold zbm;split
 ·simp
 ·split
  ·simp
  ·split
   ·simp
   ·split
    ·split<;>simp<;>omega
    ·simp
theorem zrz(t:List UInt8)(h:t.length<=1048576):neSz (zg9 t):=by
 have h1:=congrArg List.length (zzu t);rw[List.length_append]at h1;have h2:=z6x (zfz t);exact⟨by show (zgn t).length<=_;omega,by show (zbm (zfz t)).2.length<=_;omega⟩
set_option maxHeartbeats 1000000 in
theorem z92(t:List UInt8)(h:t.length<=1048576):C yie [.ro (T t)] []=some (.tup [.ro (NeD (zg9 t)),.ro (.bool (okS t))],[]):=by
 refine zae Tryz.func134 yig rfl ?_;have ht:=zzu t;have hsz0:=zrz t h
 have hna:∀c∈zgn t,zhk c=false:=by
  intro c hc;have:=List.all_eq_true.1 (List.all_takeWhile (p:=λc=> !zhk c) (l:=t)) c hc
  simpa using this
 have hrs:∀c v,zfz t=c::v->zhk c=true:=by
  intro c v e;rcases z6s t with⟨h1,_,_⟩|⟨c',v',h1,h2,_,_⟩
  ·rw[e]at h1;cases h1
  ·rw[e]at h1;cases h1;exact h2
 obtain⟨hN,hO⟩:zg9 t=⟨zgn t,(zbm (zfz t)).1,(zbm (zfz t)).2⟩/\okS t=(za8 (zg9 t)&&(zdk (zg9 t)==t)):=⟨rfl,rfl⟩;have hok:=zqc (zg9 t) hsz0;have hput:=zrx (zg9 t) hsz0;rw[hO];generalize za8 (zg9 t)=b at *;generalize zdk (zg9 t)=pt at *;rw[hN]at hok hput ⊢;clear hN hO hsz0;generalize zgn t=a at *;generalize zfz t=s at *;subst ht;have hal:a.length+s.length<=1048576:=by simpa using h
 have hsn:=z6w s
 have go2:∀e:Env,e.size=75->e.get 0=.one (.ro (T (a++s)))->e.get 2=.one (.ptr 2 0)->e.box 2=some [.ro (T []),.ro (I 0),.ro (T [])]->e.get 4=.one (.ro (N a.length))->
  Run cx q134c4 e [.fn [(.cell 2 94,94),(.tmp 3,4)] []]=some (.tup [.ro (.agg [T a,I (zbm s).1,T (zbm s).2]),.ro (.bool (b&&(pt==a++s)))],[]):=by
  intro e hsz e0 e2 b2 e4;have z1:(a.length:Int)<=(a.length:Int)+(s.length:Int):=by omega
  have hdr0:List.drop a.length (List.take (a.length+s.length) (a++s))=s:=by rw[List.take_of_length_le (by simp),List.drop_left]
  simp[hsz,e0,e4,z1,hdr0]
  refine zai (λm e=> ∃k:Nat,m=4-k/\1<=k/\k<=4/\e.size=75/\e.get 0=.one (.ro (T (a++s)))/\e.get 2=.one (.ptr 2 0)/\e.box 2=some [.ro (T []),.ro (I 0),.ro (T [])]/\e.get 5=.one (.ptr 5 0)/\e.get 6=.one (.ro (T s))/\e.get 7=.one (.ro (N k))/\
   e.box 5=some (if (zbm s).1<k then [.ro (T a),.ro (I (zbm s).1),.ro (T (zbm s).2)]else [.ro (T a),.ro (I 0),.ro (T [])]))
   ?_ 3 _ ⟨1,rfl,by omega,by omega,by simp[hsz],by simp[e0],by simp[e2],by simp[b2],by simp,by simp,by simp,?_⟩
  ·rintro m e ⟨k,rfl,hk1,hk4,hsz,e0,e2,b2,e5,e6,e7,b5⟩ ih;rcases Nat.lt_or_ge k 4 with hlt|hge
   ·have hk3:k<=3:=by omega
    have hk3':(k:Int)<=3:=by omega
    have hwk:IntKind.i64.wrap ((k:Int)+1)=((k+1:Nat):Int):=zad (by omega)
    have hsg:=zvb k;have hst:=z6u s k hk1 hk3 hrs;have hdr:=z6v s k hk1 hk3 hrs;generalize zd2 (k:Int)=S at *;have hbox:∀x:Int×List UInt8,x=zbm s->(((zbm s).1=k->x=((k:Int),(zbm s).2))/\((zbm s).1≠k->True)):=λx hx=>⟨λe=>by rw[hx,<-e],λ_=>trivial⟩
    by_cases hle:S.length<=s.length
    ·have hle':(S.length:Int)<=(s.length:Int):=by omega
     by_cases hta:s.take S.length=S
     ·have hk:=hst.1 ⟨hle,hta⟩;have hd:=hdr hk;have hta':(s.take S.length==S)=true:=by simpa using hta
      have n1:¬(zbm s).1<(k:Int):=by omega
      rw[if_neg n1]at b5;simp[hsz,e5,e6,e7,b5,hk3',hwk,hsg,hle',hta'];refine ih _ _ (by omega) ⟨k+1,rfl,by omega,by omega,by simp[hsz],by simp[e0],by simp[e2],by simp[b2],by simp[e5],by simp[e6],by simp,?_⟩
      rw[if_pos (by omega)]
      simp[b5,hd,hk]
     ·have hne:(zbm s).1≠k:=λe=>hta (hst.2 e).2
      have hta':(s.take S.length==S)=false:=by simpa using hta
      simp[hsz,e5,e6,e7,hk3',hwk,hsg,hle',hta'];refine ih _ _ (by omega) ⟨k+1,rfl,by omega,by omega,by simp[hsz],by simp[e0],by simp[e2],by simp[b2],by simp[e5],by simp[e6],by simp,?_⟩
      have:((zbm s).1<((k+1:Nat):Int))↔(zbm s).1<(k:Int):=by omega
      simp only[this];simp[b5]
    ·have hne:(zbm s).1≠k:=λe=>hle (hst.2 e).1
     have hle':¬(S.length:Int)<=(s.length:Int):=by omega
     simp[hsz,e5,e6,e7,hk3',hwk,hsg,hle'];refine ih _ _ (by omega) ⟨k+1,rfl,by omega,by omega,by simp[hsz],by simp[e0],by simp[e2],by simp[b2],by simp[e5],by simp[e6],by simp,?_⟩
     have:((zbm s).1<((k+1:Nat):Int))↔(zbm s).1<(k:Int):=by omega
     simp only[this];simp[b5]
   ·obtain rfl:k=4:=by omega
    rw[if_pos (by omega)]at b5
    cases b with
    |false=>simp[hsz,e0,e2,b2,e5,e7,b5,hok]
    |true=>simp[hsz,e0,e2,b2,e5,e7,b5,hok,hput]
  ·have:((zbm s).1<((1:Nat):Int))↔(zbm s).1=0:=by omega
   simp only[this];split
   ·rename_i e0';rcases hsn with⟨h1,h2⟩|h1|h1|h1
    ·simp[h1,h2]
    ·rw[h1]at e0';cases e0'
    ·rw[h1]at e0';cases e0'
    ·rw[h1]at e0';cases e0'
   ·simp
 simp
 refine zai (λm e=> ∃i,m=a.length-i/\i<=a.length/\e.size=75/\e.get 0=.one (.ro (T (a++s)))/\e.get 2=.one (.ptr 2 0)/\e.box 2=some [.ro (T []),.ro (I 0),.ro (T [])]/\e.get 4=.one (.ro (N i)))
  ?_ a.length _ ⟨0,rfl,Nat.zero_le _,by simp,by simp,by simp,by simp,by simp⟩
 rintro m e ⟨i,rfl,hi,hsz,e0,e2,b2,e4⟩ ih;rcases Nat.lt_or_ge i a.length with hlt|hge
 ·have hwi:IntKind.i64.wrap ((i:Int)+1)=((i+1:Nat):Int):=zad (by omega)
  have hin:(i:Int)<(a.length:Int)+(s.length:Int):=by omega
  have hin2:i<a.length+s.length:=by omega
  have hx:=hna a[i] (List.getElem_mem hlt);unfold zhk at hx;simp only[Bool.or_eq_false_iff]at hx;obtain⟨⟨x1,x2⟩,x3⟩:=hx;have hget:(a++s)[i]'(by rw[List.length_append];omega)=a[i]:=List.getElem_append_left hlt
  simp[hsz,e0,e4,hin,hin2,hget,hwi,x1,x2,x3];exact ih _ _ (by omega) ⟨i+1,rfl,by omega,by simp[hsz],by simp[e0],by simp[e2],by simp[b2],by simp⟩
 ·obtain rfl:i=a.length:=by omega
  rcases(show s=[]∨ ∃c v,s=c::v by cases s<;>simp)with h0|⟨c,v,h0⟩
  ·have hl0:s.length=0:=by rw[h0];rfl
   have hin:¬(a.length:Int)<(a.length:Int)+(s.length:Int):=by omega
   have hin2:¬0<s.length:=by omega
   simp[hsz,e0,e4,hin,hin2,-zre];exact go2 _ (by simp[hsz]) (by simp[e0]) (by simp[e2]) (by simp[b2]) (by simp[e4])
  ·have hc:=hrs c v h0;unfold zhk at hc;have hl0:s.length=v.length+1:=by rw[h0];rfl
   have hin:(a.length:Int)<(a.length:Int)+(s.length:Int):=by omega
   have hin2:a.length<a.length+s.length:=by omega
   have hget:(a++s)[a.length]'(by rw[List.length_append];omega)=c:=by subst h0;simp
   have hin3:0<s.length:=by omega
   have hget2:s[0]'hin3=c:=by subst h0;rfl
   rcases(by simpa [Bool.or_eq_true]using hc:(c=61∨c=60)∨c=62)with(rfl|rfl)|rfl
   ·simp[hsz,e0,e4,hin,hin2,hin3,hget,hget2,-zre];exact go2 _ (by simp[hsz]) (by simp[e0]) (by simp[e2]) (by simp[b2]) (by simp[e4])
   ·simp[hsz,e0,e4,hin,hin2,hin3,hget,hget2,-zre];exact go2 _ (by simp[hsz]) (by simp[e0]) (by simp[e2]) (by simp[b2]) (by simp[e4])
   ·simp[hsz,e0,e4,hin,hin2,hin3,hget,hget2,-zre];exact go2 _ (by simp[hsz]) (by simp[e0]) (by simp[e2]) (by simp[b2]) (by simp[e4])
end Go.Qz
namespace Go.Qz
open Go.Proofs
theorem zr0(l:List UInt8):(two l).1.length<=l.length/\(two l).2.length<=l.length:=by
 unfold two
 cases h:brk 32 l with
 |none=>simp
 |some p=>
  have:=congrArg List.length (zxl (n:=p.1) (r:=p.2) h);simp at this ⊢;omega
theorem z6y(l:List UInt8)(h:l.length<=1048576):∃b,C yik [.ro (T l),.ro (T [32])] []=some (.tup [.ro (T (two l).1),.ro (T (two l).2),.ro (.bool b)],[]):=by
 have h1:=z5d l [32] (by omega)
 refine⟨(Lib.cut l [32]).2.2,?_⟩;rw[h1,yb9];unfold two;cases brk 32 l<;>rfl
structure RcN(n:Nat)(r:Rc):Prop where
 sz:RcSz r
 lets:r.lets.length<=n
 builds:r.builds.length<=n
 runs:r.runs.length<=n
 srcs:r.srcs.length<=n
 pcs:r.pcs.length<=n
 steps:r.steps.length<=n
theorem rc0_N:RcN 0 rc0:=⟨⟨by simp[rc0],by simp[rc0],by simp[rc0],by simp[rc0],by simp[rc0],by simp[rc0],by simp[rc0],by simp[rc0],by simp[rc0],by simp[rc0],by simp[rc0],by simp[rc0],by simp[rc0],by simp[rc0]⟩,by simp[rc0],by simp[rc0],by simp[rc0],by simp[rc0],by simp[rc0],by simp[rc0]⟩
abbrev RBo(r:Rc):List A:=[.ro (T r.name),.ro (T r.ver),.own (FS r.lets),.own (NeS r.builds),.own (NeS r.runs),.own (FS r.srcs),.own (FS r.pcs),.own (SS r.steps)]
set_option maxHeartbeats 2000000 in
theorem zx4(r:Rc)(l:List UInt8)(n:Nat)(h:RcN n r)(hn:n<=1000000)(hl:l.length<=1048576):
 C Fn71 [.ptr 5000 0,.ro (T l)] [(5000,RBo r)]=some (.one (.ro (.bool (zdm zie r l).2)),[(5000,RBo (zdm zie r l).1)]):=by
 refine zae Tryz.func71 Cv71 rfl ?_;obtain⟨b1,c1⟩:=z6y l hl;have l1:=zr0 l;obtain⟨b2,c2⟩:=z6y (two l).2 (by omega)
 have hng:=zx3 (two l).2 (by omega)
 unfold zdm;generalize (two l).1=w at *;generalize (two l).2=x at *;generalize two x=ab at *;generalize zie x=nd at *;obtain⟨a,b⟩:=ab;obtain⟨⟨dn,dk,dv⟩,db⟩:=nd;simp only at c2 hng;have a1:r.lets.length+1<=zag:=by have:=h.lets;simp only[zag];omega
 have a2:r.builds.length+1<=zag:=by have:=h.builds;simp only[zag];omega
 have a3:r.runs.length+1<=zag:=by have:=h.runs;simp only[zag];omega
 have a4:r.srcs.length+1<=zag:=by have:=h.srcs;simp only[zag];omega
 have a5:r.pcs.length+1<=zag:=by have:=h.pcs;simp only[zag];omega
 have a6:r.steps.length+1<=zag:=by have:=h.steps;simp only[zag];omega
 cases k1:w==kwName
 ·cases k2:w==kwVer
  ·cases k3:w==zdo
   ·cases k4:w==za3
    ·cases k5:w==zcb
     ·cases k6:w==zb4
      ·cases k7:w==kwPc
       ·cases k8:w==zay
        ·simp[c1,c2,k1,k2,k3,k4,k5,k6,k7,k8]
        ·simp[c1,c2,k1,k2,k3,k4,k5,k6,k7,k8,a6]
       ·simp[c1,c2,k1,k2,k3,k4,k5,k6,k7,a5]
      ·simp[c1,c2,k1,k2,k3,k4,k5,k6,a4]
     ·simp[c1,c2,k1,k2,k3,k4,k5,hng,a3]
    ·simp[c1,c2,k1,k2,k3,k4,hng,a2]
   ·simp[c1,c2,k1,k2,k3,a1]
  ·simp[c1,c2,k1,k2]
 ·simp[c1,c2,k1]
theorem zzv(l:List UInt8)(h:l.length<=1048576):C yib [.ro (T l)] []=some (.tup [.ro (T (two l).1),.ro (T (two l).2)],[]):=by
 refine zae Tryz.func133 yid rfl ?_;have hc:=zzh l 32 1 1 rfl h (by omega)
 rw[show (1:Nat)=0+1 from rfl,zzg]at hc
 unfold two
 cases hb:brk 32 l with
 |none=>rw[hb]at hc;simp at hc;simp[hc]
 |some p=>rw[hb]at hc;simp[z5k]at hc;simp[hc]
set_option maxHeartbeats 2000000 in
theorem z6z(r:Rc)(l:List UInt8)(n:Nat)(h:RcN n r)(hn:n<=1000000)(hl:l.length<=1048576):
 C Fn68 [.view ⟨.cell 10000 0,[]⟩,.ro (T l)] [(10000,[.own (RcD r)])]=some (.tup [.own (RcD (zdm zls r l).1),.ro (.bool (zdm zls r l).2)],[(10000,[.dead])]):=by
 refine zae Tryz.func68 Cv68 rfl ?_;have c1:=zzv l hl;have l1:=zr0 l;have c2:=zzv (two l).2 (by omega)
 have hng:=z92 (two l).2 (by omega)
 unfold zdm zls;generalize (two l).1=w at *;generalize (two l).2=x at *;generalize two x=ab at *;generalize zg9 x=nd at *;generalize okS x=ob at *;obtain⟨a,b⟩:=ab;obtain⟨dn,dk,dv⟩:=nd;simp only at c2 hng;have a1:r.lets.length+1<=zag:=by have:=h.lets;simp only[zag];omega
 have a2:r.builds.length+1<=zag:=by have:=h.builds;simp only[zag];omega
 have a3:r.runs.length+1<=zag:=by have:=h.runs;simp only[zag];omega
 have a4:r.srcs.length+1<=zag:=by have:=h.srcs;simp only[zag];omega
 have a5:r.pcs.length+1<=zag:=by have:=h.pcs;simp only[zag];omega
 have a6:r.steps.length+1<=zag:=by have:=h.steps;simp only[zag];omega
 cases k1:w==kwName
 ·cases k2:w==kwVer
  ·cases k3:w==zdo
   ·cases k4:w==za3
    ·cases k5:w==zcb
     ·cases k6:w==zb4
      ·cases k7:w==kwPc
       ·cases k8:w==zay
        ·simp[c1,c2,k1,k2,k3,k4,k5,k6,k7,k8]
        ·simp[c1,c2,k1,k2,k3,k4,k5,k6,k7,k8,a6]
       ·simp[c1,c2,k1,k2,k3,k4,k5,k6,k7,a5]
      ·simp[c1,c2,k1,k2,k3,k4,k5,k6,a4]
     ·simp[c1,c2,k1,k2,k3,k4,k5,hng,a3]
    ·simp[c1,c2,k1,k2,k3,k4,hng,a2]
   ·simp[c1,c2,k1,k2,k3,a1]
  ·simp[c1,c2,k1,k2]
 ·simp[c1,c2,k1]
end Go.Qz
namespace Go.Qz
open Go.Proofs
theorem z60(q:List UInt8)(c:UInt8)(h:q.length<=1048576):C yeq [.ro (T (q++[c])),.ro (T [10])] []=some (.one (.ro (.bool (c==10))),[]):=by
 refine zae Tryz.func165 yer rfl ?_;have h1:(1:Int)<=(q.length:Int)+1:=by omega
 have hw:IntKind.i64.wrap (q.length:Int)=(q.length:Int):=wrap64 (by omega) (by omega)
 have h2:(q.length:Int)<=(q.length:Int)+1:=by omega
 have hd:List.drop q.length (List.take (q.length+1) (q++[c]))=[c]:=by rw[List.take_of_length_le (by simp),List.drop_left]
 cases hc:c==10<;>simp[h1,hw,h2,hd,hc]
theorem z1x:C yeq [.ro (T []),.ro (T [10])] []=some (.one (.ro (.bool false)),[]):=by
 refine zae Tryz.func165 yer rfl ?_;simp
def sufB(t:List UInt8):Bool:=t.getLast? ==some 10
theorem z1y(t:List UInt8)(h:t.length<=1048576):C yih [.ro (T t),.ro (T [10])] []=some (.tup [.ro (T (if sufB t then t.dropLast else t)),.ro (.bool (sufB t))],[]):=by
 refine zae Tryz.func135 yij rfl ?_;rcases List.eq_nil_or_concat t with rfl|⟨q,c,rfl⟩
 ·simp[z1x,sufB]
 ·rw[List.concat_eq_append]at *;have hq:q.length<=1048576:=by simp at h;omega
  have hs:=z60 q c hq;have he:sufB (q++[c])=(c==10):=by simp[sufB]
  rw[he,List.dropLast_concat];have hw:IntKind.i64.wrap (q.length:Int)=(q.length:Int):=wrap64 (by omega) (by omega)
  have h2:(q.length:Int)<=(q.length:Int)+1:=by omega
  cases hc:c==10<;>rw[hc]at hs<;>simp[hs,hw,h2,hc]
theorem z61(t:List UInt8)(h:t.length<=1048576):C Fn69 [.ro (T t),.ro (T [10])] []=some (.tup [.ro (T (if sufB t then t.dropLast else t)),.ro (.bool (sufB t))],[]):=by
 refine zae Tryz.func69 Cv69 rfl ?_;have hs:=z1y t h;simp[hs]
theorem z93(t:List UInt8)(h:t.length<=1048576):neSz (zie t).1:=by
 unfold zie;split
 ·exact⟨by simp[ne0],by simp[ne0]⟩
 ·split
  ·exact zrz t h
  ·exact⟨by simp[ne0],by simp[ne0]⟩
theorem z62{nd:List UInt8->Ne×Bool}(hnd:∀t,t.length<=1048576->neSz (nd t).1){n:Nat}{r:Rc}(h:RcN n r)(hn:n<1048576){l:List UInt8}(hl:l.length<=1048576):RcN (n+1) (zdm nd r l).1:=by
 obtain⟨⟨z1,z2,z3,z4,z5,z6,z7,z8,f1,f2,f3,f4,f5,f6⟩,m1,m2,m3,m4,m5,m6⟩:=h;have l1:=zr0 l;have l2:=zr0 (two l).2;have hN:=hnd (two l).2 (by omega)
 unfold zdm
 repeat' split
 all_goals
  refine⟨⟨?_,?_,?_,?_,?_,?_,?_,?_,?_,?_,?_,?_,?_,?_⟩,?_,?_,?_,?_,?_,?_⟩
  all_goals first
   |assumption
   |(simp only[List.length_append,List.length_singleton];omega)
   |(show _<=_;omega)
   |(intro f hf;rw[List.mem_append,List.mem_singleton]at hf;rcases hf with hf|rfl;(first|exact f1 f hf|exact f2 f hf|exact f3 f hf|exact f4 f hf|exact f5 f hf|exact f6 f hf);first|exact hN|exact⟨by omega,by omega⟩|omega)
set_option maxHeartbeats 4000000 in
theorem zr1(t:List UInt8)(h:t.length<=1048576):C Fn28 [.ro (T t)] []=some (.tup [.own (RcD (getI t).1),.ro (.bool (getI t).2)],[]):=by
 refine zae Tryz.func28 Cv28 rfl ?_;have hcs:=z61 t h;unfold getI;rw[show (t.getLast? ==some 10)=sufB t from rfl]
 cases hsb:sufB t with
 |false=>
  rw[hsb]at hcs;simp only[Bool.and_false,Bool.false_eq_true,if_false];by_cases hlen:t.length<=1500
  ·have h1:¬(1500:Int)<(t.length:Int):=by omega
   simp[hcs,h1,rc0]
  ·have h1:(1500:Int)<(t.length:Int):=by omega
   simp[hcs,h1,rc0]
 |true=>
  rw[hsb]at hcs;simp only[if_true]at hcs;by_cases hlen:t.length<=1500
  ·have h1:¬(1500:Int)<(t.length:Int):=by omega
   have hs:=zxg ⟨t.dropLast.toArray⟩ ⟨#[10]⟩;have h10:(⟨#[10]⟩:ByteArray).size=1:=rfl
   have hmem:∀x∈zav 10 t.dropLast,x.length<=1048576:=λx hx=>by
    have:=zfh 10 _ x hx;simp only[List.length_dropLast]at this;omega
   have hcnt:(zav 10 t.dropLast).length<=1501:=by
    have:=zfi 10 t.dropLast;simp only[List.length_dropLast]at this;omega
   have hbl:t.dropLast.length<=9223372036854775807:=by simp only[List.length_dropLast];omega
   rw[decide_eq_true hlen];simp only[Bool.and_self,if_true];obtain⟨R,hR⟩:∃R,zb5 zie rc0 (zav 10 t.dropLast)=R:=⟨_,rfl⟩;rw[hR];generalize t.dropLast=body at *;simp[hcs,h1,hs,h10,hbl,-yed];refine zoc (λo ho=>?_)
   have o0:o.get 0=.one (.ro (T t)):=by rw[ho];simp
   have o2:o.get 2=.one (.ptr 2 0):=by rw[ho];simp
   have o3:o.get 3=.one (.ptr 3 0):=by rw[ho];simp
   have o6:o.get 6=.one (.ptr 6 0):=by rw[ho];simp
   have os:o.size=34:=by rw[ho];simp
   have b2:o.box 2=some (RBo rc0):=by rw[ho];simp[rc0]
   have b3:o.box 3=some [.ro (.bool false)]:=by rw[ho];simp
   have b6:o.box 6=some (RBo rc0):=by rw[ho];simp[rc0]
   clear ho
   refine zob (λxs e=> ∃r n,(∀x∈xs,x.length<=1048576)/\n+xs.length<=1501/\RcN n r/\e.size=34/\e.get 2=.one (.ptr 9002 0)/\e.get 3=.one (.ptr 9003 0)/\e.get 6=.one (.ptr 9006 0)/\e.box 9002=some (RBo rc0)/\e.box 9003=some [.ro (.bool false)]/\
    e.box 9006=some (RBo r)/\zb5 zie r xs=R)
    ?_ _ _ ⟨rc0,0,hmem,by omega,rc0_N,by simp[os],by simp[o2],by simp[o3],by simp[o6],by simp[za0,b2],by simp[za0,b3],by simp[za0,b6],hR⟩
   clear hR hmem hcnt;rintro xs e ⟨r,n,hx,hcn,hN,es,e2,e3,e6,c2,c3,c6,hr⟩ ih
   cases xs with
   |nil=>
    rw[zb5]at hr;have hput:=zry r hN.sz;subst hr;simp only[Bool.true_and]
    cases hq:zuy r==t with
    |true=>
     have hq2:zuy r=t:=by simpa using hq
     simp[o0,o2,o3,o6,os,b2,b3,b6,c2,c3,c6,zdi,hput,hq2]
    |false=>
     have hq2:¬zuy r=t:=by simpa using hq
     simp[o0,o2,o3,o6,os,b2,b3,b6,c2,c3,c6,zdi,hput,hq,hq2,rc0]
   |cons x xs=>
    have hrl:=zx4 r x n hN (by simp at hcn;omega) (hx x (by simp))
    have hN2:=z62 z93 hN (by simp at hcn;omega) (hx x (by simp))
    rw[zb5]at hr;generalize zdm zie r x=v at *;obtain⟨r2,b⟩:=v;simp only at hrl hr hN2
    cases b with
    |false=>
     simp only[Bool.false_eq_true,if_false]at hr;subst hr;simp[o2,o3,o6,b2,b3,b6,es,e2,e3,e6,c2,c3,c6,hrl,zdi,zb1,za0,rc0]
    |true=>
     simp only[if_true]at hr;simp[es,e6,c6,hrl];refine ih _ _ (by simp) ⟨r2,n+1,λy hy=>hx y (by simp[hy]),by simp at hcn;omega,hN2,by simp[os],by simp[o2],by simp[o3],by simp[o6],by simp[zb1,za0,b2,c2],by simp[zb1,za0,b3,c3],by simp[zb1,za0,b6],hr⟩
  ·have h1:(1500:Int)<(t.length:Int):=by omega
   rw[decide_eq_false hlen];simp[hcs,h1,rc0]
end Go.Qz
namespace Go.Qz
open Go.Proofs
theorem z94(r:Rc)(h:RcSz r)(m:List UInt8)(e:Env)(hm:m.length+(nlT (r.steps.map (ln1 zay))).length<=900000)(hsz:e.size=144)(e1:e.get 1=.one (.ptr 1 0))(b1:e.box 1=some (RB1 r))(e3:e.get 3=.one (.ro (T m))):
 Run cx q61c13 e [.fn [(.tmp 2,9)] []]=some (.one (.ro (T (m++nlT (r.steps.map (ln1 zay))))),[]):=by
 have hw:=h.steps;simp[hsz,-zw2]
 refine zai (λk e=> ∃i,k=r.steps.length-i/\i<=r.steps.length/\e.size=144/\e.get 1=.one (.ptr 1 0)/\e.box 1=some (RB1 r)/\e.get 3=.one (.ro (T (m++nlT ((r.steps.map (ln1 zay)).take i))))/\e.get 9=.one (.ro (N i)))
  ?_ r.steps.length _ ⟨0,rfl,Nat.zero_le _,by simp[hsz],by simp[e1],by simp[b1],by simp[e3,nlT],by simp⟩
 clear hsz e1 b1 e3;rintro k e ⟨i,rfl,hi,hsz,e1,b1,e3,ei⟩ ih;rcases Nat.lt_or_ge i r.steps.length with hlt|hge
 ·have hwi:IntKind.i64.wrap ((i:Int)+1)=((i+1:Nat):Int):=zad (by omega)
  have htk:=zc1 (f:=ln1 zay) hlt;have hle:=zbk (r.steps.map (ln1 zay)) (i+1);have hM2:m++nlT ((r.steps.map (ln1 zay)).take (i+1))=(m++nlT ((r.steps.map (ln1 zay)).take i))++((ln1 zay) r.steps[i]++[10]):=by rw[htk,List.append_assoc]
  have hlen:(m++nlT ((r.steps.map (ln1 zay)).take (i+1))).length<=900000:=by rw[List.length_append];omega
  generalize m++nlT ((r.steps.map (ln1 zay)).take i)=M1 at *;have hl2:=congrArg List.length hM2;simp only[List.length_append,List.length_singleton,zha]at hl2 hlen;have z0:M1.length+5<=zak:=by unfold zak;omega
  have z1:M1.length+5+r.steps[i].length<=zak:=by unfold zak;omega
  have z2:M1.length+(r.steps[i].length+1+1+1+1+1)+1<=zak:=by unfold zak;omega
  simp[hsz,e1,b1,e3,ei,hlt,hwi,z0,z1,z2];exact ih _ _ (by omega) ⟨i+1,rfl,by omega,by simp[hsz],by simp[e1],by simp[b1],by rw[hM2];simp[ln1,ln2,lnN],by simp⟩
 ·obtain rfl:i=r.steps.length:=by omega
  rw[List.take_of_length_le (by simp)]at e3
  simp[hsz,e1,b1,ei,-zw2];simp[hsz,e3,zw2]
theorem z95(r:Rc)(h:RcSz r)(m:List UInt8)(e:Env)(hm:m.length+(nlT (r.pcs.map (ln2 kwPc)++(r.steps.map (ln1 zay)))).length<=900000)(hsz:e.size=144)(e1:e.get 1=.one (.ptr 1 0))(b1:e.box 1=some (RB1 r))(e3:e.get 3=.one (.ro (T m))):
 Run cx q61c14 e [.fn [(.tmp 2,9)] []]=some (.one (.ro (T (m++nlT (r.pcs.map (ln2 kwPc)++(r.steps.map (ln1 zay)))))),[]):=by
 have hw:=h.pcs;rw[zby]at hm ⊢;rw[List.length_append]at hm;simp[hsz,-z4s]
 refine zai (λk e=> ∃i,k=r.pcs.length-i/\i<=r.pcs.length/\e.size=144/\e.get 1=.one (.ptr 1 0)/\e.box 1=some (RB1 r)/\e.get 3=.one (.ro (T (m++nlT ((r.pcs.map (ln2 kwPc)).take i))))/\e.get 8=.one (.ro (N i)))
  ?_ r.pcs.length _ ⟨0,rfl,Nat.zero_le _,by simp[hsz],by simp[e1],by simp[b1],by simp[e3,nlT],by simp⟩
 clear hsz e1 b1 e3;rintro k e ⟨i,rfl,hi,hsz,e1,b1,e3,ei⟩ ih;rcases Nat.lt_or_ge i r.pcs.length with hlt|hge
 ·have hwi:IntKind.i64.wrap ((i:Int)+1)=((i+1:Nat):Int):=zad (by omega)
  have htk:=zc1 (f:=ln2 kwPc) hlt;have hle:=zbk (r.pcs.map (ln2 kwPc)) (i+1);have hM2:m++nlT ((r.pcs.map (ln2 kwPc)).take (i+1))=(m++nlT ((r.pcs.map (ln2 kwPc)).take i))++((ln2 kwPc) r.pcs[i]++[10]):=by rw[htk,List.append_assoc]
  have hlen:(m++nlT ((r.pcs.map (ln2 kwPc)).take (i+1))).length<=900000:=by rw[List.length_append];omega
  generalize m++nlT ((r.pcs.map (ln2 kwPc)).take i)=M1 at *;have hl2:=congrArg List.length hM2;simp only[List.length_append,List.length_singleton,zlt]at hl2 hlen;have z0:M1.length+6<=zak:=by unfold zak;omega
  have z1:M1.length+6+r.pcs[i].1.length<=zak:=by unfold zak;omega
  have z2:M1.length+(r.pcs[i].1.length+1+1+1+1+1+1)+1<=zak:=by unfold zak;omega
  have z3:M1.length+(r.pcs[i].1.length+1+1+1+1+1+1+1)+r.pcs[i].2.length<=zak:=by unfold zak;omega
  have z4:M1.length+(r.pcs[i].1.length+(r.pcs[i].2.length+1)+1+1+1+1+1+1)+1<=zak:=by unfold zak;omega
  have z5:M1.length+(r.pcs[i].1.length+6)<=zak:=by unfold zak;omega
  have z6:M1.length+(r.pcs[i].1.length+1+1+1+1+1+1+1)+r.pcs[i].2.length<=zak:=by unfold zak;omega
  simp[hsz,e1,b1,e3,ei,hlt,hwi,z0,z1,z2,z3,z4,z5,z6];exact ih _ _ (by omega) ⟨i+1,rfl,by omega,by simp[hsz],by simp[e1],by simp[b1],by rw[hM2];simp[ln1,ln2,lnN],by simp⟩
 ·obtain rfl:i=r.pcs.length:=by omega
  rw[List.take_of_length_le (by simp)]at e3
  simp[hsz,e1,b1,ei,-z4s];have:=z94 r h (m++nlT (r.pcs.map (ln2 kwPc)));rw[List.append_assoc]at this;exact this _ (by rw[List.length_append];omega) (by simp[hsz]) (by simp[e1]) (by simp[b1]) (by simp[e3])
theorem z96(r:Rc)(h:RcSz r)(m:List UInt8)(e:Env)(hm:m.length+(nlT (r.srcs.map (ln2 zb4)++(r.pcs.map (ln2 kwPc)++(r.steps.map (ln1 zay))))).length<=900000)(hsz:e.size=144)(e1:e.get 1=.one (.ptr 1 0))(b1:e.box 1=some (RB1 r))(e3:e.get 3=.one (.ro (T m))):
 Run cx q61c15 e [.fn [(.tmp 2,9)] []]=some (.one (.ro (T (m++nlT (r.srcs.map (ln2 zb4)++(r.pcs.map (ln2 kwPc)++(r.steps.map (ln1 zay))))))),[]):=by
 have hw:=h.srcs;rw[zby]at hm ⊢;rw[List.length_append]at hm;simp[hsz,-z4t]
 refine zai (λk e=> ∃i,k=r.srcs.length-i/\i<=r.srcs.length/\e.size=144/\e.get 1=.one (.ptr 1 0)/\e.box 1=some (RB1 r)/\e.get 3=.one (.ro (T (m++nlT ((r.srcs.map (ln2 zb4)).take i))))/\e.get 7=.one (.ro (N i)))
  ?_ r.srcs.length _ ⟨0,rfl,Nat.zero_le _,by simp[hsz],by simp[e1],by simp[b1],by simp[e3,nlT],by simp⟩
 clear hsz e1 b1 e3;rintro k e ⟨i,rfl,hi,hsz,e1,b1,e3,ei⟩ ih;rcases Nat.lt_or_ge i r.srcs.length with hlt|hge
 ·have hwi:IntKind.i64.wrap ((i:Int)+1)=((i+1:Nat):Int):=zad (by omega)
  have htk:=zc1 (f:=ln2 zb4) hlt;have hle:=zbk (r.srcs.map (ln2 zb4)) (i+1);have hM2:m++nlT ((r.srcs.map (ln2 zb4)).take (i+1))=(m++nlT ((r.srcs.map (ln2 zb4)).take i))++((ln2 zb4) r.srcs[i]++[10]):=by rw[htk,List.append_assoc]
  have hlen:(m++nlT ((r.srcs.map (ln2 zb4)).take (i+1))).length<=900000:=by rw[List.length_append];omega
  generalize m++nlT ((r.srcs.map (ln2 zb4)).take i)=M1 at *;have hl2:=congrArg List.length hM2;simp only[List.length_append,List.length_singleton,zlt]at hl2 hlen;have z0:M1.length+7<=zak:=by unfold zak;omega
  have z1:M1.length+7+r.srcs[i].1.length<=zak:=by unfold zak;omega
  have z2:M1.length+(r.srcs[i].1.length+1+1+1+1+1+1+1)+1<=zak:=by unfold zak;omega
  have z3:M1.length+(r.srcs[i].1.length+1+1+1+1+1+1+1+1)+r.srcs[i].2.length<=zak:=by unfold zak;omega
  have z4:M1.length+(r.srcs[i].1.length+(r.srcs[i].2.length+1)+1+1+1+1+1+1+1)+1<=zak:=by unfold zak;omega
  have z5:M1.length+(r.srcs[i].1.length+7)<=zak:=by unfold zak;omega
  have z6:M1.length+(r.srcs[i].1.length+1+1+1+1+1+1+1+1)+r.srcs[i].2.length<=zak:=by unfold zak;omega
  simp[hsz,e1,b1,e3,ei,hlt,hwi,z0,z1,z2,z3,z4,z5,z6];exact ih _ _ (by omega) ⟨i+1,rfl,by omega,by simp[hsz],by simp[e1],by simp[b1],by rw[hM2];simp[ln1,ln2,lnN],by simp⟩
 ·obtain rfl:i=r.srcs.length:=by omega
  rw[List.take_of_length_le (by simp)]at e3
  simp[hsz,e1,b1,ei,-z4t];have:=z95 r h (m++nlT (r.srcs.map (ln2 zb4)));rw[List.append_assoc]at this;exact this _ (by rw[List.length_append];omega) (by simp[hsz]) (by simp[e1]) (by simp[b1]) (by simp[e3])
theorem z97(r:Rc)(h:RcSz r)(m:List UInt8)(e:Env)(hm:m.length+(nlT (r.runs.map (lnN zcb)++(r.srcs.map (ln2 zb4)++(r.pcs.map (ln2 kwPc)++(r.steps.map (ln1 zay)))))).length<=900000)(hsz:e.size=144)(e1:e.get 1=.one (.ptr 1 0))(b1:e.box 1=some (RB1 r))(e3:e.get 3=.one (.ro (T m))):
 Run cx q61c16 e [.fn [(.tmp 2,9)] []]=some (.one (.ro (T (m++nlT (r.runs.map (lnN zcb)++(r.srcs.map (ln2 zb4)++(r.pcs.map (ln2 kwPc)++(r.steps.map (ln1 zay)))))))),[]):=by
 have hw:=h.runs;rw[zby]at hm ⊢;rw[List.length_append]at hm;simp[hsz,-z4u]
 refine zai (λk e=> ∃i,k=r.runs.length-i/\i<=r.runs.length/\e.size=144/\e.get 1=.one (.ptr 1 0)/\e.box 1=some (RB1 r)/\e.get 3=.one (.ro (T (m++nlT ((r.runs.map (lnN zcb)).take i))))/\e.get 6=.one (.ro (N i)))
  ?_ r.runs.length _ ⟨0,rfl,Nat.zero_le _,by simp[hsz],by simp[e1],by simp[b1],by simp[e3,nlT],by simp⟩
 clear hsz e1 b1 e3;rintro k e ⟨i,rfl,hi,hsz,e1,b1,e3,ei⟩ ih;rcases Nat.lt_or_ge i r.runs.length with hlt|hge
 ·have hwi:IntKind.i64.wrap ((i:Int)+1)=((i+1:Nat):Int):=zad (by omega)
  have htk:=zc1 (f:=lnN zcb) hlt;have hle:=zbk (r.runs.map (lnN zcb)) (i+1);have hM2:m++nlT ((r.runs.map (lnN zcb)).take (i+1))=(m++nlT ((r.runs.map (lnN zcb)).take i))++((lnN zcb) r.runs[i]++[10]):=by rw[htk,List.append_assoc]
  have hlen:(m++nlT ((r.runs.map (lnN zcb)).take (i+1))).length<=900000:=by rw[List.length_append];omega
  generalize m++nlT ((r.runs.map (lnN zcb)).take i)=M1 at *;have hl2:=congrArg List.length hM2;simp only[List.length_append,List.length_singleton,lnN,zha]at hl2 hlen;have hnd:=zrx r.runs[i] (h.run _ (List.getElem_mem hlt));have z0:M1.length+4<=zak:=by unfold zak;omega
  have z1:M1.length+4+(zdk r.runs[i]).length<=zak:=by unfold zak;omega
  have z2:M1.length+((zdk r.runs[i]).length+1+1+1+1)+1<=zak:=by unfold zak;omega
  simp[hsz,e1,b1,e3,ei,hlt,hwi,hnd,z0,z1,z2];exact ih _ _ (by omega) ⟨i+1,rfl,by omega,by simp[hsz],by simp[e1],by simp[b1],by rw[hM2];simp[ln1,ln2,lnN],by simp⟩
 ·obtain rfl:i=r.runs.length:=by omega
  rw[List.take_of_length_le (by simp)]at e3
  simp[hsz,e1,b1,ei,-z4u];have:=z96 r h (m++nlT (r.runs.map (lnN zcb)));rw[List.append_assoc]at this;exact this _ (by rw[List.length_append];omega) (by simp[hsz]) (by simp[e1]) (by simp[b1]) (by simp[e3])
theorem z98(r:Rc)(h:RcSz r)(m:List UInt8)(e:Env)(hm:m.length+(nlT (r.builds.map (lnN za3)++(r.runs.map (lnN zcb)++(r.srcs.map (ln2 zb4)++(r.pcs.map (ln2 kwPc)++(r.steps.map (ln1 zay))))))).length<=900000)(hsz:e.size=144)(e1:e.get 1=.one (.ptr 1 0))(b1:e.box 1=some (RB1 r))(e3:e.get 3=.one (.ro (T m))):
 Run cx q61c17 e [.fn [(.tmp 2,9)] []]=some (.one (.ro (T (m++nlT (r.builds.map (lnN za3)++(r.runs.map (lnN zcb)++(r.srcs.map (ln2 zb4)++(r.pcs.map (ln2 kwPc)++(r.steps.map (ln1 zay))))))))),[]):=by
 have hw:=h.builds;rw[zby]at hm ⊢;rw[List.length_append]at hm;simp[hsz,-z4v]
 refine zai (λk e=> ∃i,k=r.builds.length-i/\i<=r.builds.length/\e.size=144/\e.get 1=.one (.ptr 1 0)/\e.box 1=some (RB1 r)/\e.get 3=.one (.ro (T (m++nlT ((r.builds.map (lnN za3)).take i))))/\e.get 5=.one (.ro (N i)))
  ?_ r.builds.length _ ⟨0,rfl,Nat.zero_le _,by simp[hsz],by simp[e1],by simp[b1],by simp[e3,nlT],by simp⟩
 clear hsz e1 b1 e3;rintro k e ⟨i,rfl,hi,hsz,e1,b1,e3,ei⟩ ih;rcases Nat.lt_or_ge i r.builds.length with hlt|hge
 ·have hwi:IntKind.i64.wrap ((i:Int)+1)=((i+1:Nat):Int):=zad (by omega)
  have htk:=zc1 (f:=lnN za3) hlt;have hle:=zbk (r.builds.map (lnN za3)) (i+1);have hM2:m++nlT ((r.builds.map (lnN za3)).take (i+1))=(m++nlT ((r.builds.map (lnN za3)).take i))++((lnN za3) r.builds[i]++[10]):=by rw[htk,List.append_assoc]
  have hlen:(m++nlT ((r.builds.map (lnN za3)).take (i+1))).length<=900000:=by rw[List.length_append];omega
  generalize m++nlT ((r.builds.map (lnN za3)).take i)=M1 at *;have hl2:=congrArg List.length hM2;simp only[List.length_append,List.length_singleton,lnN,zha]at hl2 hlen;have hnd:=zrx r.builds[i] (h.bld _ (List.getElem_mem hlt));have z0:M1.length+6<=zak:=by unfold zak;omega
  have z1:M1.length+6+(zdk r.builds[i]).length<=zak:=by unfold zak;omega
  have z2:M1.length+((zdk r.builds[i]).length+1+1+1+1+1+1)+1<=zak:=by unfold zak;omega
  simp[hsz,e1,b1,e3,ei,hlt,hwi,hnd,z0,z1,z2];exact ih _ _ (by omega) ⟨i+1,rfl,by omega,by simp[hsz],by simp[e1],by simp[b1],by rw[hM2];simp[ln1,ln2,lnN],by simp⟩
 ·obtain rfl:i=r.builds.length:=by omega
  rw[List.take_of_length_le (by simp)]at e3
  simp[hsz,e1,b1,ei,-z4v];have:=z97 r h (m++nlT (r.builds.map (lnN za3)));rw[List.append_assoc]at this;exact this _ (by rw[List.length_append];omega) (by simp[hsz]) (by simp[e1]) (by simp[b1]) (by simp[e3])
set_option maxHeartbeats 1000000 in
theorem z99(r:Rc)(h:RcSz r)(hm:(putR r).length<=900000):C Fn61 [.ro (RcD r)] []=some (.one (.ro (T (putR r))),[]):=by
 refine zae Tryz.func61 Cv61 rfl ?_;have hw:=h.lets;have h1:=h.name;have h2:=h.ver
 have hP:putR r=(ln1 kwName r.name++[10])++(ln1 kwVer r.ver++[10])++(nlT (r.lets.map (ln2 zdo))++nlT (r.builds.map (lnN za3)++(r.runs.map (lnN zcb)++(r.srcs.map (ln2 zb4)++(r.pcs.map (ln2 kwPc)++(r.steps.map (ln1 zay))))))):=by
  unfold putR zel;rw[zi0,zi0,zby];simp
 rw[hP]at hm ⊢;obtain⟨m,hmm⟩:∃m,m=(ln1 kwName r.name++[10])++(ln1 kwVer r.ver++[10]):=⟨_,rfl⟩;rw[<-hmm]at hm ⊢;simp only[List.length_append]at hm;have z1:5+r.name.length<=zak:=by unfold zak;omega
 have z2:r.name.length+1+1+1+1+1+9<=zak:=by unfold zak;omega
 have z3:r.name.length+9+1+1+1+1+1+r.ver.length<=zak:=by unfold zak;omega
 have z4:r.name.length+(r.ver.length+1+1+1+1+1+1+1+1+1)+1+1+1+1+1+1<=zak:=by unfold zak;omega
 simp[z1,z2,z3,z4,-z4w]
 refine zai (λk e=> ∃i,k=r.lets.length-i/\i<=r.lets.length/\e.size=144/\e.get 1=.one (.ptr 1 0)/\e.box 1=some (RB1 r)/\e.get 3=.one (.ro (T (m++nlT ((r.lets.map (ln2 zdo)).take i))))/\e.get 4=.one (.ro (N i)))
  ?_ r.lets.length _ ⟨0,rfl,Nat.zero_le _,by simp,by simp,by simp,by rw[hmm];simp[nlT,ln1],by simp⟩
 rintro k e ⟨i,rfl,hi,hsz,e1,b1,e3,ei⟩ ih;rcases Nat.lt_or_ge i r.lets.length with hlt|hge
 ·have hwi:IntKind.i64.wrap ((i:Int)+1)=((i+1:Nat):Int):=zad (by omega)
  have htk:=zc1 (f:=ln2 zdo) hlt;have hle:=zbk (r.lets.map (ln2 zdo)) (i+1);have hM2:m++nlT ((r.lets.map (ln2 zdo)).take (i+1))=(m++nlT ((r.lets.map (ln2 zdo)).take i))++((ln2 zdo) r.lets[i]++[10]):=by rw[htk,List.append_assoc]
  have hlen:(m++nlT ((r.lets.map (ln2 zdo)).take (i+1))).length<=900000:=by rw[List.length_append];omega
  generalize m++nlT ((r.lets.map (ln2 zdo)).take i)=M1 at *;have hl2:=congrArg List.length hM2;simp only[List.length_append,List.length_singleton,zlt]at hl2 hlen;have z0:M1.length+4<=zak:=by unfold zak;omega
  have z1:M1.length+4+r.lets[i].1.length<=zak:=by unfold zak;omega
  have z2:M1.length+(r.lets[i].1.length+1+1+1+1)+1<=zak:=by unfold zak;omega
  have z3:M1.length+(r.lets[i].1.length+1+1+1+1+1)+r.lets[i].2.length<=zak:=by unfold zak;omega
  have z4:M1.length+(r.lets[i].1.length+(r.lets[i].2.length+1)+1+1+1+1)+1<=zak:=by unfold zak;omega
  have z5:M1.length+(r.lets[i].1.length+4)<=zak:=by unfold zak;omega
  have z6:M1.length+(r.lets[i].1.length+1+1+1+1+1)+r.lets[i].2.length<=zak:=by unfold zak;omega
  simp[hsz,e1,b1,e3,ei,hlt,hwi,z0,z1,z2,z3,z4,z5,z6];exact ih _ _ (by omega) ⟨i+1,rfl,by omega,by simp[hsz],by simp[e1],by simp[b1],by rw[hM2];simp[ln1,ln2,lnN],by simp⟩
 ·obtain rfl:i=r.lets.length:=by omega
  rw[List.take_of_length_le (by simp)]at e3
  simp[hsz,e1,b1,ei,-z4w];have:=z98 r h (m++nlT (r.lets.map (ln2 zdo)));rw[List.append_assoc]at this;exact this _ (by rw[List.length_append];omega) (by simp[hsz]) (by simp[e1]) (by simp[b1]) (by simp[e3])
end Go.Qz
namespace Go.Qz
open Go.Proofs
noncomputable def zmn:List QOp:=rhs (Eq.trans (by cbv) (by (try simp only[mkA]);rfl):qsOf Tryz.f27 6=_)
theorem zaa{k j:Nat}{d:List Nat}(h:j≠k):(k::d).contains j=d.contains j:=by
 rw[List.contains_cons,show (j==k)=false by simpa using h,Bool.false_or]
theorem zhb(k:Nat)(d:List Nat):(k::d).contains k=true:=by
 rw[List.contains_cons,beq_self_eq_true,Bool.true_or]
theorem zcd{P:Program}{io:FuncId->List Nat}{call:zal}{qs:List QOp}{k:Nat}{q:QOp}(hq:qs[k]? =some q){E:Env}{G:Env->Prop}(h:∃e1,zdc P io call q E=some e1/\G e1):∃q e1,qs[k]? =some q/\zdc P io call q E=some e1/\G e1:=by
 obtain⟨e1,h1,h2⟩:=h;exact⟨q,e1,hq,h1,h2⟩
structure GetI(t:List UInt8)(xs:za2)(x:List UInt8)(r r2:Rc)(b:Bool)(i:Nat)(B:Nat->Option (List A))(d:List Nat)(E:Env):Prop where
 c50:d.contains 5=true->d.contains 0=true
 c109:d.contains 10=true->d.contains 9=true
 c76:d.contains 7=true->d.contains 6=true
 sz:E.size=55
 g0:E.get 0=.one (.ro (T t))
 g2:E.get 2=.one (.ptr 2 0)
 g4:E.get 4=.one (.ptr 4 0)
 g5:E.get 5=.one (.own (SS xs))
 g6:E.get 6=.one (.ro (N i))
 bo:∀k,k≠4->k≠7->E.box k=B k
 b4:E.box 4=some (if d.contains 5 then [.ro (T r.name),.ro (T r.ver),.dead,.dead,.dead,.dead,.dead,.dead]else RBo r)
 b7:d.contains 9=true->E.box 7=some (if d.contains 10 then RBo r2 else RBo rc0)
 f27:d.contains 0=true->d.contains 5=false->E.get 27=.agg [.ro (T r.name),.ro (T r.ver),.view ⟨.cell 4 2,[]⟩,.view ⟨.cell 4 3,[]⟩,.view ⟨.cell 4 4,[]⟩,.view ⟨.cell 4 5,[]⟩,.view ⟨.cell 4 6,[]⟩,.view ⟨.cell 4 7,[]⟩]
 f28:d.contains 1=true->E.get 28=.one (.view ⟨.tmp 5,[]⟩)
 f29:d.contains 2=true->E.get 29=.one (.ro (N i))
 f30:d.contains 3=true->E.get 30=.one (.eptr ⟨.tmp 5,[]⟩ 1 i 0)
 f31:d.contains 4=true->E.get 31=.one (.ro (T x))
 f32:d.contains 5=true->d.contains 6=false->E.get 32=.tup [.own (RcD r2),.ro (.bool b)]
 f26a:d.contains 6=true->d.contains 7=false->E.get 26=.tup [.own (RcD r2),.ro (.bool b)]
 f26b:d.contains 6=true->d.contains 7=true->E.get 26=.tup [.dead,.ro (.bool b)]
 f33:d.contains 7=true->d.contains 10=false->E.get 33=.one (.own (RcD r2))
 f34:d.contains 8=true->E.get 34=.one (.ro (.bool b))
 f7:d.contains 9=true->E.get 7=.one (.ptr 7 0)
 f8:d.contains 11=true->E.get 8=.one (.ro (.bool b))
structure GetH(xs:za2)(x:List UInt8)(r r2:Rc)(b:Bool)(i:Nat):Prop where
 hix:i<xs.length
 hxe:xs[i]? =some x
 hln:C Fn68 [.view ⟨.cell 10000 0,[]⟩,.ro (T x)] [(10000,[.own (RcD r)])]=some (.tup [.own (RcD r2),.ro (.bool b)],[(10000,[.dead])])
set_option maxHeartbeats 1000000 in
theorem yaa{t:List UInt8}{xs:za2}{x:List UInt8}{r r2:Rc}{b:Bool}{i:Nat}(H:GetH xs x r r2 b i){B:Nat->Option (List A)}{d:List Nat}{E:Env}(h:GetI t xs x r r2 b i B d E)(hc:d.contains 0=false):
 ∃q e1,zmn[0]? =some q/\zdc Tryz.prog ioS C q E=some e1/\GetI t xs x r r2 b i B (0::d) e1:=by
 refine zcd rfl ?_;have sz:=h.sz;have g0:=h.g0;have g2:=h.g2;have g4:=h.g4;have g5:=h.g5;have g6:=h.g6;have bb:=h.b4
 have c5:d.contains 5=false:=by
  cases h5:d.contains 5 with
  |false=>rfl
  |true=>rw[h.c50 h5]at hc;cases hc
 rw[c5]at bb;simp only[Bool.false_eq_true,if_false]at bb;simp[sz,g0,g2,g4,g5,g6,bb]
 exact{
  c50:=λ_=>zhb _ _
  c109:=λa=>by rw[zaa (by decide)]at a ⊢;exact h.c109 a
  c76:=λa=>by rw[zaa (by decide)]at a ⊢;exact h.c76 a
  sz:=by simp[sz,g0,g2,g4,g5,g6,bb]
  g0:=by simp[sz,g0,g2,g4,g5,g6,bb]
  g2:=by simp[sz,g0,g2,g4,g5,g6,bb]
  g4:=by simp[sz,g0,g2,g4,g5,g6,bb]
  g5:=by simp[sz,g0,g2,g4,g5,g6,bb]
  g6:=by simp[sz,g0,g2,g4,g5,g6,bb]
  bo:=λj j4 j7=>by
   have:=h.bo j j4 j7;simp[j4,j7,this,sz,g0,g2,g4,g5,g6,bb]
  b4:=by
   rw[zaa (show (5:Nat)≠0 by decide),c5]
   simp[sz,g0,g2,g4,g5,g6,bb]
  b7:=λa=>by
   rw[zaa (show (9:Nat)≠0 by decide)]at a
   rw[zaa (show (10:Nat)≠0 by decide)]
   simp[h.b7 a,sz,g0,g2,g4,g5,g6,bb]
  f27:=λa0 a5=>by
   rw[zaa (show (5:Nat)≠0 by decide)]at a5
   simp[sz,g0,g2,g4,g5,g6,bb]
  f28:=λa1=>by
   rw[zaa (show (1:Nat)≠0 by decide)]at a1
   simp[h.f28 a1,sz,g0,g2,g4,g5,g6,bb]
  f29:=λa2=>by
   rw[zaa (show (2:Nat)≠0 by decide)]at a2
   simp[h.f29 a2,sz,g0,g2,g4,g5,g6,bb]
  f30:=λa3=>by
   rw[zaa (show (3:Nat)≠0 by decide)]at a3
   simp[h.f30 a3,sz,g0,g2,g4,g5,g6,bb]
  f31:=λa4=>by
   rw[zaa (show (4:Nat)≠0 by decide)]at a4
   simp[h.f31 a4,sz,g0,g2,g4,g5,g6,bb]
  f32:=λa5 a6=>by
   rw[zaa (show (5:Nat)≠0 by decide)]at a5
   rw[zaa (show (6:Nat)≠0 by decide)]at a6
   simp[h.f32 a5 a6,sz,g0,g2,g4,g5,g6,bb]
  f26a:=λa6 a7=>by
   rw[zaa (show (6:Nat)≠0 by decide)]at a6
   rw[zaa (show (7:Nat)≠0 by decide)]at a7
   simp[h.f26a a6 a7,sz,g0,g2,g4,g5,g6,bb]
  f26b:=λa6 a7=>by
   rw[zaa (show (6:Nat)≠0 by decide)]at a6
   rw[zaa (show (7:Nat)≠0 by decide)]at a7
   simp[h.f26b a6 a7,sz,g0,g2,g4,g5,g6,bb]
  f33:=λa7 a10=>by
   rw[zaa (show (7:Nat)≠0 by decide)]at a7
   rw[zaa (show (10:Nat)≠0 by decide)]at a10
   simp[h.f33 a7 a10,sz,g0,g2,g4,g5,g6,bb]
  f34:=λa8=>by
   rw[zaa (show (8:Nat)≠0 by decide)]at a8
   simp[h.f34 a8,sz,g0,g2,g4,g5,g6,bb]
  f7:=λa9=>by
   rw[zaa (show (9:Nat)≠0 by decide)]at a9
   simp[h.f7 a9,sz,g0,g2,g4,g5,g6,bb]
  f8:=λa11=>by
   rw[zaa (show (11:Nat)≠0 by decide)]at a11
   simp[h.f8 a11,sz,g0,g2,g4,g5,g6,bb]}
set_option maxHeartbeats 1000000 in
theorem yab{t:List UInt8}{xs:za2}{x:List UInt8}{r r2:Rc}{b:Bool}{i:Nat}(H:GetH xs x r r2 b i){B:Nat->Option (List A)}{d:List Nat}{E:Env}(h:GetI t xs x r r2 b i B d E)(hc:d.contains 1=false):
 ∃q e1,zmn[1]? =some q/\zdc Tryz.prog ioS C q E=some e1/\GetI t xs x r r2 b i B (1::d) e1:=by
 refine zcd rfl ?_;have sz:=h.sz;have g0:=h.g0;have g2:=h.g2;have g4:=h.g4;have g5:=h.g5;have g6:=h.g6;have bb:=h.b4;simp[sz,g0,g2,g4,g5,g6]
 exact{
  c50:=λa=>by rw[zaa (by decide)]at a ⊢;exact h.c50 a
  c109:=λa=>by rw[zaa (by decide)]at a ⊢;exact h.c109 a
  c76:=λa=>by rw[zaa (by decide)]at a ⊢;exact h.c76 a
  sz:=by simp[sz,g0,g2,g4,g5,g6]
  g0:=by simp[sz,g0,g2,g4,g5,g6]
  g2:=by simp[sz,g0,g2,g4,g5,g6]
  g4:=by simp[sz,g0,g2,g4,g5,g6]
  g5:=by simp[sz,g0,g2,g4,g5,g6]
  g6:=by simp[sz,g0,g2,g4,g5,g6]
  bo:=λj j4 j7=>by
   have:=h.bo j j4 j7;simp[j4,j7,this,sz,g0,g2,g4,g5,g6]
  b4:=by
   rw[zaa (show (5:Nat)≠1 by decide)]
   simp[sz,g0,g2,g4,g5,g6,h.b4]
  b7:=λa=>by
   rw[zaa (show (9:Nat)≠1 by decide)]at a
   rw[zaa (show (10:Nat)≠1 by decide)]
   simp[h.b7 a,sz,g0,g2,g4,g5,g6]
  f27:=λa0 a5=>by
   rw[zaa (show (0:Nat)≠1 by decide)]at a0
   rw[zaa (show (5:Nat)≠1 by decide)]at a5
   simp[h.f27 a0 a5,sz,g0,g2,g4,g5,g6]
  f28:=λa1=>by
   simp[sz,g0,g2,g4,g5,g6]
  f29:=λa2=>by
   rw[zaa (show (2:Nat)≠1 by decide)]at a2
   simp[h.f29 a2,sz,g0,g2,g4,g5,g6]
  f30:=λa3=>by
   rw[zaa (show (3:Nat)≠1 by decide)]at a3
   simp[h.f30 a3,sz,g0,g2,g4,g5,g6]
  f31:=λa4=>by
   rw[zaa (show (4:Nat)≠1 by decide)]at a4
   simp[h.f31 a4,sz,g0,g2,g4,g5,g6]
  f32:=λa5 a6=>by
   rw[zaa (show (5:Nat)≠1 by decide)]at a5
   rw[zaa (show (6:Nat)≠1 by decide)]at a6
   simp[h.f32 a5 a6,sz,g0,g2,g4,g5,g6]
  f26a:=λa6 a7=>by
   rw[zaa (show (6:Nat)≠1 by decide)]at a6
   rw[zaa (show (7:Nat)≠1 by decide)]at a7
   simp[h.f26a a6 a7,sz,g0,g2,g4,g5,g6]
  f26b:=λa6 a7=>by
   rw[zaa (show (6:Nat)≠1 by decide)]at a6
   rw[zaa (show (7:Nat)≠1 by decide)]at a7
   simp[h.f26b a6 a7,sz,g0,g2,g4,g5,g6]
  f33:=λa7 a10=>by
   rw[zaa (show (7:Nat)≠1 by decide)]at a7
   rw[zaa (show (10:Nat)≠1 by decide)]at a10
   simp[h.f33 a7 a10,sz,g0,g2,g4,g5,g6]
  f34:=λa8=>by
   rw[zaa (show (8:Nat)≠1 by decide)]at a8
   simp[h.f34 a8,sz,g0,g2,g4,g5,g6]
  f7:=λa9=>by
   rw[zaa (show (9:Nat)≠1 by decide)]at a9
   simp[h.f7 a9,sz,g0,g2,g4,g5,g6]
  f8:=λa11=>by
   rw[zaa (show (11:Nat)≠1 by decide)]at a11
   simp[h.f8 a11,sz,g0,g2,g4,g5,g6]}
set_option maxHeartbeats 1000000 in
theorem yac{t:List UInt8}{xs:za2}{x:List UInt8}{r r2:Rc}{b:Bool}{i:Nat}(H:GetH xs x r r2 b i){B:Nat->Option (List A)}{d:List Nat}{E:Env}(h:GetI t xs x r r2 b i B d E)(hc:d.contains 2=false):
 ∃q e1,zmn[2]? =some q/\zdc Tryz.prog ioS C q E=some e1/\GetI t xs x r r2 b i B (2::d) e1:=by
 refine zcd rfl ?_;have sz:=h.sz;have g0:=h.g0;have g2:=h.g2;have g4:=h.g4;have g5:=h.g5;have g6:=h.g6;have bb:=h.b4;simp[sz,g0,g2,g4,g5,g6]
 exact{
  c50:=λa=>by rw[zaa (by decide)]at a ⊢;exact h.c50 a
  c109:=λa=>by rw[zaa (by decide)]at a ⊢;exact h.c109 a
  c76:=λa=>by rw[zaa (by decide)]at a ⊢;exact h.c76 a
  sz:=by simp[sz,g0,g2,g4,g5,g6]
  g0:=by simp[sz,g0,g2,g4,g5,g6]
  g2:=by simp[sz,g0,g2,g4,g5,g6]
  g4:=by simp[sz,g0,g2,g4,g5,g6]
  g5:=by simp[sz,g0,g2,g4,g5,g6]
  g6:=by simp[sz,g0,g2,g4,g5,g6]
  bo:=λj j4 j7=>by
   have:=h.bo j j4 j7;simp[j4,j7,this,sz,g0,g2,g4,g5,g6]
  b4:=by
   rw[zaa (show (5:Nat)≠2 by decide)]
   simp[sz,g0,g2,g4,g5,g6,h.b4]
  b7:=λa=>by
   rw[zaa (show (9:Nat)≠2 by decide)]at a
   rw[zaa (show (10:Nat)≠2 by decide)]
   simp[h.b7 a,sz,g0,g2,g4,g5,g6]
  f27:=λa0 a5=>by
   rw[zaa (show (0:Nat)≠2 by decide)]at a0
   rw[zaa (show (5:Nat)≠2 by decide)]at a5
   simp[h.f27 a0 a5,sz,g0,g2,g4,g5,g6]
  f28:=λa1=>by
   rw[zaa (show (1:Nat)≠2 by decide)]at a1
   simp[h.f28 a1,sz,g0,g2,g4,g5,g6]
  f29:=λa2=>by
   simp[sz,g0,g2,g4,g5,g6]
  f30:=λa3=>by
   rw[zaa (show (3:Nat)≠2 by decide)]at a3
   simp[h.f30 a3,sz,g0,g2,g4,g5,g6]
  f31:=λa4=>by
   rw[zaa (show (4:Nat)≠2 by decide)]at a4
   simp[h.f31 a4,sz,g0,g2,g4,g5,g6]
  f32:=λa5 a6=>by
   rw[zaa (show (5:Nat)≠2 by decide)]at a5
   rw[zaa (show (6:Nat)≠2 by decide)]at a6
   simp[h.f32 a5 a6,sz,g0,g2,g4,g5,g6]
  f26a:=λa6 a7=>by
   rw[zaa (show (6:Nat)≠2 by decide)]at a6
   rw[zaa (show (7:Nat)≠2 by decide)]at a7
   simp[h.f26a a6 a7,sz,g0,g2,g4,g5,g6]
  f26b:=λa6 a7=>by
   rw[zaa (show (6:Nat)≠2 by decide)]at a6
   rw[zaa (show (7:Nat)≠2 by decide)]at a7
   simp[h.f26b a6 a7,sz,g0,g2,g4,g5,g6]
  f33:=λa7 a10=>by
   rw[zaa (show (7:Nat)≠2 by decide)]at a7
   rw[zaa (show (10:Nat)≠2 by decide)]at a10
   simp[h.f33 a7 a10,sz,g0,g2,g4,g5,g6]
  f34:=λa8=>by
   rw[zaa (show (8:Nat)≠2 by decide)]at a8
   simp[h.f34 a8,sz,g0,g2,g4,g5,g6]
  f7:=λa9=>by
   rw[zaa (show (9:Nat)≠2 by decide)]at a9
   simp[h.f7 a9,sz,g0,g2,g4,g5,g6]
  f8:=λa11=>by
   rw[zaa (show (11:Nat)≠2 by decide)]at a11
   simp[h.f8 a11,sz,g0,g2,g4,g5,g6]}
set_option maxHeartbeats 1000000 in
theorem yad{t:List UInt8}{xs:za2}{x:List UInt8}{r r2:Rc}{b:Bool}{i:Nat}(H:GetH xs x r r2 b i){B:Nat->Option (List A)}{d:List Nat}{E:Env}(h:GetI t xs x r r2 b i B d E)(hc:d.contains 3=false)(hw:∀j∈[1,2],d.contains j=true):
 ∃q e1,zmn[3]? =some q/\zdc Tryz.prog ioS C q E=some e1/\GetI t xs x r r2 b i B (3::d) e1:=by
 refine zcd rfl ?_;have w1:d.contains 1=true:=hw 1 (by simp)
 have w2:d.contains 2=true:=hw 2 (by simp)
 have sz:=h.sz;have g0:=h.g0;have g2:=h.g2;have g4:=h.g4;have g5:=h.g5;have g6:=h.g6;have bb:=h.b4;have n_f28:=h.f28 w1;have n_f29:=h.f29 w2;have hix:=H.hix;have hxe:xs[i]=x:=by have:=H.hxe;rw[List.getElem?_eq_getElem hix]at this;exact Option.some.inj this
 simp[sz,g0,g2,g4,g5,g6,n_f28,n_f29,hix,hxe]
 exact{
  c50:=λa=>by rw[zaa (by decide)]at a ⊢;exact h.c50 a
  c109:=λa=>by rw[zaa (by decide)]at a ⊢;exact h.c109 a
  c76:=λa=>by rw[zaa (by decide)]at a ⊢;exact h.c76 a
  sz:=by simp[sz,g0,g2,g4,g5,g6,n_f28,n_f29,hix,hxe]
  g0:=by simp[sz,g0,g2,g4,g5,g6,n_f28,n_f29,hix,hxe]
  g2:=by simp[sz,g0,g2,g4,g5,g6,n_f28,n_f29,hix,hxe]
  g4:=by simp[sz,g0,g2,g4,g5,g6,n_f28,n_f29,hix,hxe]
  g5:=by simp[sz,g0,g2,g4,g5,g6,n_f28,n_f29,hix,hxe]
  g6:=by simp[sz,g0,g2,g4,g5,g6,n_f28,n_f29,hix,hxe]
  bo:=λj j4 j7=>by
   have:=h.bo j j4 j7;simp[j4,j7,this,sz,g0,g2,g4,g5,g6,n_f28,n_f29,hix,hxe]
  b4:=by
   rw[zaa (show (5:Nat)≠3 by decide)]
   simp[sz,g0,g2,g4,g5,g6,n_f28,n_f29,hix,hxe,h.b4]
  b7:=λa=>by
   rw[zaa (show (9:Nat)≠3 by decide)]at a
   rw[zaa (show (10:Nat)≠3 by decide)]
   simp[h.b7 a,sz,g0,g2,g4,g5,g6,n_f28,n_f29,hix,hxe]
  f27:=λa0 a5=>by
   rw[zaa (show (0:Nat)≠3 by decide)]at a0
   rw[zaa (show (5:Nat)≠3 by decide)]at a5
   simp[h.f27 a0 a5,sz,g0,g2,g4,g5,g6,n_f28,n_f29,hix,hxe]
  f28:=λa1=>by
   rw[zaa (show (1:Nat)≠3 by decide)]at a1
   simp[h.f28 a1,sz,g0,g2,g4,g5,g6,n_f28,n_f29,hix,hxe]
  f29:=λa2=>by
   rw[zaa (show (2:Nat)≠3 by decide)]at a2
   simp[h.f29 a2,sz,g0,g2,g4,g5,g6,n_f28,n_f29,hix,hxe]
  f30:=λa3=>by
   simp[sz,g0,g2,g4,g5,g6,n_f28,n_f29,hix,hxe]
  f31:=λa4=>by
   rw[zaa (show (4:Nat)≠3 by decide)]at a4
   simp[h.f31 a4,sz,g0,g2,g4,g5,g6,n_f28,n_f29,hix,hxe]
  f32:=λa5 a6=>by
   rw[zaa (show (5:Nat)≠3 by decide)]at a5
   rw[zaa (show (6:Nat)≠3 by decide)]at a6
   simp[h.f32 a5 a6,sz,g0,g2,g4,g5,g6,n_f28,n_f29,hix,hxe]
  f26a:=λa6 a7=>by
   rw[zaa (show (6:Nat)≠3 by decide)]at a6
   rw[zaa (show (7:Nat)≠3 by decide)]at a7
   simp[h.f26a a6 a7,sz,g0,g2,g4,g5,g6,n_f28,n_f29,hix,hxe]
  f26b:=λa6 a7=>by
   rw[zaa (show (6:Nat)≠3 by decide)]at a6
   rw[zaa (show (7:Nat)≠3 by decide)]at a7
   simp[h.f26b a6 a7,sz,g0,g2,g4,g5,g6,n_f28,n_f29,hix,hxe]
  f33:=λa7 a10=>by
   rw[zaa (show (7:Nat)≠3 by decide)]at a7
   rw[zaa (show (10:Nat)≠3 by decide)]at a10
   simp[h.f33 a7 a10,sz,g0,g2,g4,g5,g6,n_f28,n_f29,hix,hxe]
  f34:=λa8=>by
   rw[zaa (show (8:Nat)≠3 by decide)]at a8
   simp[h.f34 a8,sz,g0,g2,g4,g5,g6,n_f28,n_f29,hix,hxe]
  f7:=λa9=>by
   rw[zaa (show (9:Nat)≠3 by decide)]at a9
   simp[h.f7 a9,sz,g0,g2,g4,g5,g6,n_f28,n_f29,hix,hxe]
  f8:=λa11=>by
   rw[zaa (show (11:Nat)≠3 by decide)]at a11
   simp[h.f8 a11,sz,g0,g2,g4,g5,g6,n_f28,n_f29,hix,hxe]}
set_option maxHeartbeats 1000000 in
theorem yae{t:List UInt8}{xs:za2}{x:List UInt8}{r r2:Rc}{b:Bool}{i:Nat}(H:GetH xs x r r2 b i){B:Nat->Option (List A)}{d:List Nat}{E:Env}(h:GetI t xs x r r2 b i B d E)(hc:d.contains 4=false)(hw:∀j∈[3],d.contains j=true):
 ∃q e1,zmn[4]? =some q/\zdc Tryz.prog ioS C q E=some e1/\GetI t xs x r r2 b i B (4::d) e1:=by
 refine zcd rfl ?_;have w3:d.contains 3=true:=hw 3 (by simp)
 have sz:=h.sz;have g0:=h.g0;have g2:=h.g2;have g4:=h.g4;have g5:=h.g5;have g6:=h.g6;have bb:=h.b4;have n_f30:=h.f30 w3;have hix:=H.hix;have hxe:xs[i]=x:=by have:=H.hxe;rw[List.getElem?_eq_getElem hix]at this;exact Option.some.inj this
 simp[sz,g0,g2,g4,g5,g6,n_f30,hix,hxe]
 exact{
  c50:=λa=>by rw[zaa (by decide)]at a ⊢;exact h.c50 a
  c109:=λa=>by rw[zaa (by decide)]at a ⊢;exact h.c109 a
  c76:=λa=>by rw[zaa (by decide)]at a ⊢;exact h.c76 a
  sz:=by simp[sz,g0,g2,g4,g5,g6,n_f30,hix,hxe]
  g0:=by simp[sz,g0,g2,g4,g5,g6,n_f30,hix,hxe]
  g2:=by simp[sz,g0,g2,g4,g5,g6,n_f30,hix,hxe]
  g4:=by simp[sz,g0,g2,g4,g5,g6,n_f30,hix,hxe]
  g5:=by simp[sz,g0,g2,g4,g5,g6,n_f30,hix,hxe]
  g6:=by simp[sz,g0,g2,g4,g5,g6,n_f30,hix,hxe]
  bo:=λj j4 j7=>by
   have:=h.bo j j4 j7;simp[j4,j7,this,sz,g0,g2,g4,g5,g6,n_f30,hix,hxe]
  b4:=by
   rw[zaa (show (5:Nat)≠4 by decide)]
   simp[sz,g0,g2,g4,g5,g6,n_f30,hix,hxe,h.b4]
  b7:=λa=>by
   rw[zaa (show (9:Nat)≠4 by decide)]at a
   rw[zaa (show (10:Nat)≠4 by decide)]
   simp[h.b7 a,sz,g0,g2,g4,g5,g6,n_f30,hix,hxe]
  f27:=λa0 a5=>by
   rw[zaa (show (0:Nat)≠4 by decide)]at a0
   rw[zaa (show (5:Nat)≠4 by decide)]at a5
   simp[h.f27 a0 a5,sz,g0,g2,g4,g5,g6,n_f30,hix,hxe]
  f28:=λa1=>by
   rw[zaa (show (1:Nat)≠4 by decide)]at a1
   simp[h.f28 a1,sz,g0,g2,g4,g5,g6,n_f30,hix,hxe]
  f29:=λa2=>by
   rw[zaa (show (2:Nat)≠4 by decide)]at a2
   simp[h.f29 a2,sz,g0,g2,g4,g5,g6,n_f30,hix,hxe]
  f30:=λa3=>by
   rw[zaa (show (3:Nat)≠4 by decide)]at a3
   simp[h.f30 a3,sz,g0,g2,g4,g5,g6,n_f30,hix,hxe]
  f31:=λa4=>by
   simp[sz,g0,g2,g4,g5,g6,n_f30,hix,hxe]
  f32:=λa5 a6=>by
   rw[zaa (show (5:Nat)≠4 by decide)]at a5
   rw[zaa (show (6:Nat)≠4 by decide)]at a6
   simp[h.f32 a5 a6,sz,g0,g2,g4,g5,g6,n_f30,hix,hxe]
  f26a:=λa6 a7=>by
   rw[zaa (show (6:Nat)≠4 by decide)]at a6
   rw[zaa (show (7:Nat)≠4 by decide)]at a7
   simp[h.f26a a6 a7,sz,g0,g2,g4,g5,g6,n_f30,hix,hxe]
  f26b:=λa6 a7=>by
   rw[zaa (show (6:Nat)≠4 by decide)]at a6
   rw[zaa (show (7:Nat)≠4 by decide)]at a7
   simp[h.f26b a6 a7,sz,g0,g2,g4,g5,g6,n_f30,hix,hxe]
  f33:=λa7 a10=>by
   rw[zaa (show (7:Nat)≠4 by decide)]at a7
   rw[zaa (show (10:Nat)≠4 by decide)]at a10
   simp[h.f33 a7 a10,sz,g0,g2,g4,g5,g6,n_f30,hix,hxe]
  f34:=λa8=>by
   rw[zaa (show (8:Nat)≠4 by decide)]at a8
   simp[h.f34 a8,sz,g0,g2,g4,g5,g6,n_f30,hix,hxe]
  f7:=λa9=>by
   rw[zaa (show (9:Nat)≠4 by decide)]at a9
   simp[h.f7 a9,sz,g0,g2,g4,g5,g6,n_f30,hix,hxe]
  f8:=λa11=>by
   rw[zaa (show (11:Nat)≠4 by decide)]at a11
   simp[h.f8 a11,sz,g0,g2,g4,g5,g6,n_f30,hix,hxe]}
set_option maxHeartbeats 1000000 in
theorem yaf{t:List UInt8}{xs:za2}{x:List UInt8}{r r2:Rc}{b:Bool}{i:Nat}(H:GetH xs x r r2 b i){B:Nat->Option (List A)}{d:List Nat}{E:Env}(h:GetI t xs x r r2 b i B d E)(hc:d.contains 5=false)(hw:∀j∈[0,4],d.contains j=true):
 ∃q e1,zmn[5]? =some q/\zdc Tryz.prog ioS C q E=some e1/\GetI t xs x r r2 b i B (5::d) e1:=by
 refine zcd rfl ?_;have w0:d.contains 0=true:=hw 0 (by simp)
 have w4:d.contains 4=true:=hw 4 (by simp)
 have sz:=h.sz;have g0:=h.g0;have g2:=h.g2;have g4:=h.g4;have g5:=h.g5;have g6:=h.g6;have bb:=h.b4;rw[hc]at bb;simp only[Bool.false_eq_true,if_false]at bb;have n_f27:=h.f27 w0 hc;have n_f31:=h.f31 w4;have hln:=H.hln;simp[sz,g0,g2,g4,g5,g6,bb,n_f27,n_f31,hln]
 exact{
  c50:=λ_=>by rw[zaa (by decide)];exact w0
  c109:=λa=>by rw[zaa (by decide)]at a ⊢;exact h.c109 a
  c76:=λa=>by rw[zaa (by decide)]at a ⊢;exact h.c76 a
  sz:=by simp[sz,g0,g2,g4,g5,g6,bb,n_f27,n_f31,hln]
  g0:=by simp[sz,g0,g2,g4,g5,g6,bb,n_f27,n_f31,hln]
  g2:=by simp[sz,g0,g2,g4,g5,g6,bb,n_f27,n_f31,hln]
  g4:=by simp[sz,g0,g2,g4,g5,g6,bb,n_f27,n_f31,hln]
  g5:=by simp[sz,g0,g2,g4,g5,g6,bb,n_f27,n_f31,hln]
  g6:=by simp[sz,g0,g2,g4,g5,g6,bb,n_f27,n_f31,hln]
  bo:=λj j4 j7=>by
   have:=h.bo j j4 j7;simp[j4,j7,this,sz,g0,g2,g4,g5,g6,bb,n_f27,n_f31,hln]
  b4:=by
   rw[zhb];simp[sz,g0,g2,g4,g5,g6,bb,n_f27,n_f31,hln]
  b7:=λa=>by
   rw[zaa (show (9:Nat)≠5 by decide)]at a
   rw[zaa (show (10:Nat)≠5 by decide)]
   simp[h.b7 a,sz,g0,g2,g4,g5,g6,bb,n_f27,n_f31,hln]
  f27:=λa0 a5=>by rw[zhb]at a5;cases a5
  f28:=λa1=>by
   rw[zaa (show (1:Nat)≠5 by decide)]at a1
   simp[h.f28 a1,sz,g0,g2,g4,g5,g6,bb,n_f27,n_f31,hln]
  f29:=λa2=>by
   rw[zaa (show (2:Nat)≠5 by decide)]at a2
   simp[h.f29 a2,sz,g0,g2,g4,g5,g6,bb,n_f27,n_f31,hln]
  f30:=λa3=>by
   rw[zaa (show (3:Nat)≠5 by decide)]at a3
   simp[h.f30 a3,sz,g0,g2,g4,g5,g6,bb,n_f27,n_f31,hln]
  f31:=λa4=>by
   rw[zaa (show (4:Nat)≠5 by decide)]at a4
   simp[h.f31 a4,sz,g0,g2,g4,g5,g6,bb,n_f27,n_f31,hln]
  f32:=λa5 a6=>by
   rw[zaa (show (6:Nat)≠5 by decide)]at a6
   simp[sz,g0,g2,g4,g5,g6,bb,n_f27,n_f31,hln]
  f26a:=λa6 a7=>by
   rw[zaa (show (6:Nat)≠5 by decide)]at a6
   rw[zaa (show (7:Nat)≠5 by decide)]at a7
   simp[h.f26a a6 a7,sz,g0,g2,g4,g5,g6,bb,n_f27,n_f31,hln]
  f26b:=λa6 a7=>by
   rw[zaa (show (6:Nat)≠5 by decide)]at a6
   rw[zaa (show (7:Nat)≠5 by decide)]at a7
   simp[h.f26b a6 a7,sz,g0,g2,g4,g5,g6,bb,n_f27,n_f31,hln]
  f33:=λa7 a10=>by
   rw[zaa (show (7:Nat)≠5 by decide)]at a7
   rw[zaa (show (10:Nat)≠5 by decide)]at a10
   simp[h.f33 a7 a10,sz,g0,g2,g4,g5,g6,bb,n_f27,n_f31,hln]
  f34:=λa8=>by
   rw[zaa (show (8:Nat)≠5 by decide)]at a8
   simp[h.f34 a8,sz,g0,g2,g4,g5,g6,bb,n_f27,n_f31,hln]
  f7:=λa9=>by
   rw[zaa (show (9:Nat)≠5 by decide)]at a9
   simp[h.f7 a9,sz,g0,g2,g4,g5,g6,bb,n_f27,n_f31,hln]
  f8:=λa11=>by
   rw[zaa (show (11:Nat)≠5 by decide)]at a11
   simp[h.f8 a11,sz,g0,g2,g4,g5,g6,bb,n_f27,n_f31,hln]}
set_option maxHeartbeats 1000000 in
theorem yag{t:List UInt8}{xs:za2}{x:List UInt8}{r r2:Rc}{b:Bool}{i:Nat}(H:GetH xs x r r2 b i){B:Nat->Option (List A)}{d:List Nat}{E:Env}(h:GetI t xs x r r2 b i B d E)(hc:d.contains 6=false)(hw:∀j∈[5],d.contains j=true):
 ∃q e1,zmn[6]? =some q/\zdc Tryz.prog ioS C q E=some e1/\GetI t xs x r r2 b i B (6::d) e1:=by
 refine zcd rfl ?_;have w5:d.contains 5=true:=hw 5 (by simp)
 have sz:=h.sz;have g0:=h.g0;have g2:=h.g2;have g4:=h.g4;have g5:=h.g5;have g6:=h.g6;have bb:=h.b4;have n_f32:=h.f32 w5 hc;simp[sz,g0,g2,g4,g5,g6,n_f32]
 exact{
  c50:=λa=>by rw[zaa (by decide)]at a ⊢;exact h.c50 a
  c109:=λa=>by rw[zaa (by decide)]at a ⊢;exact h.c109 a
  c76:=λ_=>zhb _ _
  sz:=by simp[sz,g0,g2,g4,g5,g6,n_f32]
  g0:=by simp[sz,g0,g2,g4,g5,g6,n_f32]
  g2:=by simp[sz,g0,g2,g4,g5,g6,n_f32]
  g4:=by simp[sz,g0,g2,g4,g5,g6,n_f32]
  g5:=by simp[sz,g0,g2,g4,g5,g6,n_f32]
  g6:=by simp[sz,g0,g2,g4,g5,g6,n_f32]
  bo:=λj j4 j7=>by
   have:=h.bo j j4 j7;simp[j4,j7,this,sz,g0,g2,g4,g5,g6,n_f32]
  b4:=by
   rw[zaa (show (5:Nat)≠6 by decide)]
   simp[sz,g0,g2,g4,g5,g6,n_f32,h.b4]
  b7:=λa=>by
   rw[zaa (show (9:Nat)≠6 by decide)]at a
   rw[zaa (show (10:Nat)≠6 by decide)]
   simp[h.b7 a,sz,g0,g2,g4,g5,g6,n_f32]
  f27:=λa0 a5=>by
   rw[zaa (show (0:Nat)≠6 by decide)]at a0
   rw[zaa (show (5:Nat)≠6 by decide)]at a5
   simp[h.f27 a0 a5,sz,g0,g2,g4,g5,g6,n_f32]
  f28:=λa1=>by
   rw[zaa (show (1:Nat)≠6 by decide)]at a1
   simp[h.f28 a1,sz,g0,g2,g4,g5,g6,n_f32]
  f29:=λa2=>by
   rw[zaa (show (2:Nat)≠6 by decide)]at a2
   simp[h.f29 a2,sz,g0,g2,g4,g5,g6,n_f32]
  f30:=λa3=>by
   rw[zaa (show (3:Nat)≠6 by decide)]at a3
   simp[h.f30 a3,sz,g0,g2,g4,g5,g6,n_f32]
  f31:=λa4=>by
   rw[zaa (show (4:Nat)≠6 by decide)]at a4
   simp[h.f31 a4,sz,g0,g2,g4,g5,g6,n_f32]
  f32:=λa5 a6=>by rw[zhb]at a6;cases a6
  f26a:=λa6 a7=>by
   rw[zaa (show (7:Nat)≠6 by decide)]at a7
   simp[sz,g0,g2,g4,g5,g6,n_f32]
  f26b:=λ_ a7=>by
   rw[zaa (show (7:Nat)≠6 by decide)]at a7
   rw[h.c76 a7]at hc;cases hc
  f33:=λa7 a10=>by
   rw[zaa (show (7:Nat)≠6 by decide)]at a7
   rw[zaa (show (10:Nat)≠6 by decide)]at a10
   simp[h.f33 a7 a10,sz,g0,g2,g4,g5,g6,n_f32]
  f34:=λa8=>by
   rw[zaa (show (8:Nat)≠6 by decide)]at a8
   simp[h.f34 a8,sz,g0,g2,g4,g5,g6,n_f32]
  f7:=λa9=>by
   rw[zaa (show (9:Nat)≠6 by decide)]at a9
   simp[h.f7 a9,sz,g0,g2,g4,g5,g6,n_f32]
  f8:=λa11=>by
   rw[zaa (show (11:Nat)≠6 by decide)]at a11
   simp[h.f8 a11,sz,g0,g2,g4,g5,g6,n_f32]}
set_option maxHeartbeats 1000000 in
theorem yah{t:List UInt8}{xs:za2}{x:List UInt8}{r r2:Rc}{b:Bool}{i:Nat}(H:GetH xs x r r2 b i){B:Nat->Option (List A)}{d:List Nat}{E:Env}(h:GetI t xs x r r2 b i B d E)(hc:d.contains 7=false)(hw:∀j∈[6],d.contains j=true):
 ∃q e1,zmn[7]? =some q/\zdc Tryz.prog ioS C q E=some e1/\GetI t xs x r r2 b i B (7::d) e1:=by
 refine zcd rfl ?_;have w6:d.contains 6=true:=hw 6 (by simp)
 have sz:=h.sz;have g0:=h.g0;have g2:=h.g2;have g4:=h.g4;have g5:=h.g5;have g6:=h.g6;have bb:=h.b4;have n_f26a:=h.f26a w6 hc;simp[sz,g0,g2,g4,g5,g6,n_f26a]
 exact{
  c50:=λa=>by rw[zaa (by decide)]at a ⊢;exact h.c50 a
  c109:=λa=>by rw[zaa (by decide)]at a ⊢;exact h.c109 a
  c76:=λ_=>by rw[zaa (by decide)];exact w6
  sz:=by simp[sz,g0,g2,g4,g5,g6,n_f26a]
  g0:=by simp[sz,g0,g2,g4,g5,g6,n_f26a]
  g2:=by simp[sz,g0,g2,g4,g5,g6,n_f26a]
  g4:=by simp[sz,g0,g2,g4,g5,g6,n_f26a]
  g5:=by simp[sz,g0,g2,g4,g5,g6,n_f26a]
  g6:=by simp[sz,g0,g2,g4,g5,g6,n_f26a]
  bo:=λj j4 j7=>by
   have:=h.bo j j4 j7;simp[j4,j7,this,sz,g0,g2,g4,g5,g6,n_f26a]
  b4:=by
   rw[zaa (show (5:Nat)≠7 by decide)]
   simp[sz,g0,g2,g4,g5,g6,n_f26a,h.b4]
  b7:=λa=>by
   rw[zaa (show (9:Nat)≠7 by decide)]at a
   rw[zaa (show (10:Nat)≠7 by decide)]
   simp[h.b7 a,sz,g0,g2,g4,g5,g6,n_f26a]
  f27:=λa0 a5=>by
   rw[zaa (show (0:Nat)≠7 by decide)]at a0
   rw[zaa (show (5:Nat)≠7 by decide)]at a5
   simp[h.f27 a0 a5,sz,g0,g2,g4,g5,g6,n_f26a]
  f28:=λa1=>by
   rw[zaa (show (1:Nat)≠7 by decide)]at a1
   simp[h.f28 a1,sz,g0,g2,g4,g5,g6,n_f26a]
  f29:=λa2=>by
   rw[zaa (show (2:Nat)≠7 by decide)]at a2
   simp[h.f29 a2,sz,g0,g2,g4,g5,g6,n_f26a]
  f30:=λa3=>by
   rw[zaa (show (3:Nat)≠7 by decide)]at a3
   simp[h.f30 a3,sz,g0,g2,g4,g5,g6,n_f26a]
  f31:=λa4=>by
   rw[zaa (show (4:Nat)≠7 by decide)]at a4
   simp[h.f31 a4,sz,g0,g2,g4,g5,g6,n_f26a]
  f32:=λa5 a6=>by
   rw[zaa (show (5:Nat)≠7 by decide)]at a5
   rw[zaa (show (6:Nat)≠7 by decide)]at a6
   simp[h.f32 a5 a6,sz,g0,g2,g4,g5,g6,n_f26a]
  f26a:=λa6 a7=>by rw[zhb]at a7;cases a7
  f26b:=λa6 a7=>by
   rw[zaa (show (6:Nat)≠7 by decide)]at a6
   simp[sz,g0,g2,g4,g5,g6,n_f26a]
  f33:=λa7 a10=>by
   rw[zaa (show (10:Nat)≠7 by decide)]at a10
   simp[sz,g0,g2,g4,g5,g6,n_f26a]
  f34:=λa8=>by
   rw[zaa (show (8:Nat)≠7 by decide)]at a8
   simp[h.f34 a8,sz,g0,g2,g4,g5,g6,n_f26a]
  f7:=λa9=>by
   rw[zaa (show (9:Nat)≠7 by decide)]at a9
   simp[h.f7 a9,sz,g0,g2,g4,g5,g6,n_f26a]
  f8:=λa11=>by
   rw[zaa (show (11:Nat)≠7 by decide)]at a11
   simp[h.f8 a11,sz,g0,g2,g4,g5,g6,n_f26a]}
set_option maxHeartbeats 1000000 in
theorem yai{t:List UInt8}{xs:za2}{x:List UInt8}{r r2:Rc}{b:Bool}{i:Nat}(H:GetH xs x r r2 b i){B:Nat->Option (List A)}{d:List Nat}{E:Env}(h:GetI t xs x r r2 b i B d E)(hc:d.contains 8=false)(hw:∀j∈[6],d.contains j=true):
 ∃q e1,zmn[8]? =some q/\zdc Tryz.prog ioS C q E=some e1/\GetI t xs x r r2 b i B (8::d) e1:=by
 refine zcd rfl ?_;have w6:d.contains 6=true:=hw 6 (by simp)
 have sz:=h.sz;have g0:=h.g0;have g2:=h.g2;have g4:=h.g4;have g5:=h.g5;have g6:=h.g6;have bb:=h.b4
 cases h7:d.contains 7 with
 |true=>
  have n_f26:=h.f26b w6 h7;simp[sz,g0,g2,g4,g5,g6,n_f26]
  exact{
   c50:=λa=>by rw[zaa (by decide)]at a ⊢;exact h.c50 a
   c109:=λa=>by rw[zaa (by decide)]at a ⊢;exact h.c109 a
   c76:=λa=>by rw[zaa (by decide)]at a ⊢;exact h.c76 a
   sz:=by simp[sz,g0,g2,g4,g5,g6,n_f26]
   g0:=by simp[sz,g0,g2,g4,g5,g6,n_f26]
   g2:=by simp[sz,g0,g2,g4,g5,g6,n_f26]
   g4:=by simp[sz,g0,g2,g4,g5,g6,n_f26]
   g5:=by simp[sz,g0,g2,g4,g5,g6,n_f26]
   g6:=by simp[sz,g0,g2,g4,g5,g6,n_f26]
   bo:=λj j4 j7=>by
    have:=h.bo j j4 j7;simp[j4,j7,this,sz,g0,g2,g4,g5,g6,n_f26]
   b4:=by
    rw[zaa (show (5:Nat)≠8 by decide)]
    simp[sz,g0,g2,g4,g5,g6,n_f26,h.b4]
   b7:=λa=>by
    rw[zaa (show (9:Nat)≠8 by decide)]at a
    rw[zaa (show (10:Nat)≠8 by decide)]
    simp[h.b7 a,sz,g0,g2,g4,g5,g6,n_f26]
   f27:=λa0 a5=>by
    rw[zaa (show (0:Nat)≠8 by decide)]at a0
    rw[zaa (show (5:Nat)≠8 by decide)]at a5
    simp[h.f27 a0 a5,sz,g0,g2,g4,g5,g6,n_f26]
   f28:=λa1=>by
    rw[zaa (show (1:Nat)≠8 by decide)]at a1
    simp[h.f28 a1,sz,g0,g2,g4,g5,g6,n_f26]
   f29:=λa2=>by
    rw[zaa (show (2:Nat)≠8 by decide)]at a2
    simp[h.f29 a2,sz,g0,g2,g4,g5,g6,n_f26]
   f30:=λa3=>by
    rw[zaa (show (3:Nat)≠8 by decide)]at a3
    simp[h.f30 a3,sz,g0,g2,g4,g5,g6,n_f26]
   f31:=λa4=>by
    rw[zaa (show (4:Nat)≠8 by decide)]at a4
    simp[h.f31 a4,sz,g0,g2,g4,g5,g6,n_f26]
   f32:=λa5 a6=>by
    rw[zaa (show (5:Nat)≠8 by decide)]at a5
    rw[zaa (show (6:Nat)≠8 by decide)]at a6
    simp[h.f32 a5 a6,sz,g0,g2,g4,g5,g6,n_f26]
   f26a:=λa6 a7=>by
    rw[zaa (show (6:Nat)≠8 by decide)]at a6
    rw[zaa (show (7:Nat)≠8 by decide)]at a7
    simp[h.f26a a6 a7,sz,g0,g2,g4,g5,g6,n_f26]
   f26b:=λa6 a7=>by
    rw[zaa (show (6:Nat)≠8 by decide)]at a6
    rw[zaa (show (7:Nat)≠8 by decide)]at a7
    simp[h.f26b a6 a7,sz,g0,g2,g4,g5,g6,n_f26]
   f33:=λa7 a10=>by
    rw[zaa (show (7:Nat)≠8 by decide)]at a7
    rw[zaa (show (10:Nat)≠8 by decide)]at a10
    simp[h.f33 a7 a10,sz,g0,g2,g4,g5,g6,n_f26]
   f34:=λa8=>by
    simp[sz,g0,g2,g4,g5,g6,n_f26]
   f7:=λa9=>by
    rw[zaa (show (9:Nat)≠8 by decide)]at a9
    simp[h.f7 a9,sz,g0,g2,g4,g5,g6,n_f26]
   f8:=λa11=>by
    rw[zaa (show (11:Nat)≠8 by decide)]at a11
    simp[h.f8 a11,sz,g0,g2,g4,g5,g6,n_f26]}
 |false=>
  have n_f26:=h.f26a w6 h7;simp[sz,g0,g2,g4,g5,g6,n_f26]
  exact{
   c50:=λa=>by rw[zaa (by decide)]at a ⊢;exact h.c50 a
   c109:=λa=>by rw[zaa (by decide)]at a ⊢;exact h.c109 a
   c76:=λa=>by rw[zaa (by decide)]at a ⊢;exact h.c76 a
   sz:=by simp[sz,g0,g2,g4,g5,g6,n_f26]
   g0:=by simp[sz,g0,g2,g4,g5,g6,n_f26]
   g2:=by simp[sz,g0,g2,g4,g5,g6,n_f26]
   g4:=by simp[sz,g0,g2,g4,g5,g6,n_f26]
   g5:=by simp[sz,g0,g2,g4,g5,g6,n_f26]
   g6:=by simp[sz,g0,g2,g4,g5,g6,n_f26]
   bo:=λj j4 j7=>by
    have:=h.bo j j4 j7;simp[j4,j7,this,sz,g0,g2,g4,g5,g6,n_f26]
   b4:=by
    rw[zaa (show (5:Nat)≠8 by decide)]
    simp[sz,g0,g2,g4,g5,g6,n_f26,h.b4]
   b7:=λa=>by
    rw[zaa (show (9:Nat)≠8 by decide)]at a
    rw[zaa (show (10:Nat)≠8 by decide)]
    simp[h.b7 a,sz,g0,g2,g4,g5,g6,n_f26]
   f27:=λa0 a5=>by
    rw[zaa (show (0:Nat)≠8 by decide)]at a0
    rw[zaa (show (5:Nat)≠8 by decide)]at a5
    simp[h.f27 a0 a5,sz,g0,g2,g4,g5,g6,n_f26]
   f28:=λa1=>by
    rw[zaa (show (1:Nat)≠8 by decide)]at a1
    simp[h.f28 a1,sz,g0,g2,g4,g5,g6,n_f26]
   f29:=λa2=>by
    rw[zaa (show (2:Nat)≠8 by decide)]at a2
    simp[h.f29 a2,sz,g0,g2,g4,g5,g6,n_f26]
   f30:=λa3=>by
    rw[zaa (show (3:Nat)≠8 by decide)]at a3
    simp[h.f30 a3,sz,g0,g2,g4,g5,g6,n_f26]
   f31:=λa4=>by
    rw[zaa (show (4:Nat)≠8 by decide)]at a4
    simp[h.f31 a4,sz,g0,g2,g4,g5,g6,n_f26]
   f32:=λa5 a6=>by
    rw[zaa (show (5:Nat)≠8 by decide)]at a5
    rw[zaa (show (6:Nat)≠8 by decide)]at a6
    simp[h.f32 a5 a6,sz,g0,g2,g4,g5,g6,n_f26]
   f26a:=λa6 a7=>by
    rw[zaa (show (6:Nat)≠8 by decide)]at a6
    rw[zaa (show (7:Nat)≠8 by decide)]at a7
    simp[h.f26a a6 a7,sz,g0,g2,g4,g5,g6,n_f26]
   f26b:=λa6 a7=>by
    rw[zaa (show (6:Nat)≠8 by decide)]at a6
    rw[zaa (show (7:Nat)≠8 by decide)]at a7
    simp[h.f26b a6 a7,sz,g0,g2,g4,g5,g6,n_f26]
   f33:=λa7 a10=>by
    rw[zaa (show (7:Nat)≠8 by decide)]at a7
    rw[zaa (show (10:Nat)≠8 by decide)]at a10
    simp[h.f33 a7 a10,sz,g0,g2,g4,g5,g6,n_f26]
   f34:=λa8=>by
    simp[sz,g0,g2,g4,g5,g6,n_f26]
   f7:=λa9=>by
    rw[zaa (show (9:Nat)≠8 by decide)]at a9
    simp[h.f7 a9,sz,g0,g2,g4,g5,g6,n_f26]
   f8:=λa11=>by
    rw[zaa (show (11:Nat)≠8 by decide)]at a11
    simp[h.f8 a11,sz,g0,g2,g4,g5,g6,n_f26]}
set_option maxHeartbeats 1000000 in
theorem yaj{t:List UInt8}{xs:za2}{x:List UInt8}{r r2:Rc}{b:Bool}{i:Nat}(H:GetH xs x r r2 b i){B:Nat->Option (List A)}{d:List Nat}{E:Env}(h:GetI t xs x r r2 b i B d E)(hc:d.contains 9=false):
 ∃q e1,zmn[9]? =some q/\zdc Tryz.prog ioS C q E=some e1/\GetI t xs x r r2 b i B (9::d) e1:=by
 refine zcd rfl ?_;have sz:=h.sz;have g0:=h.g0;have g2:=h.g2;have g4:=h.g4;have g5:=h.g5;have g6:=h.g6;have bb:=h.b4;simp[sz,g0,g2,g4,g5,g6]
 exact{
  c50:=λa=>by rw[zaa (by decide)]at a ⊢;exact h.c50 a
  c109:=λ_=>zhb _ _
  c76:=λa=>by rw[zaa (by decide)]at a ⊢;exact h.c76 a
  sz:=by simp[sz,g0,g2,g4,g5,g6]
  g0:=by simp[sz,g0,g2,g4,g5,g6]
  g2:=by simp[sz,g0,g2,g4,g5,g6]
  g4:=by simp[sz,g0,g2,g4,g5,g6]
  g5:=by simp[sz,g0,g2,g4,g5,g6]
  g6:=by simp[sz,g0,g2,g4,g5,g6]
  bo:=λj j4 j7=>by
   have:=h.bo j j4 j7;simp[j4,j7,this,sz,g0,g2,g4,g5,g6]
  b4:=by
   rw[zaa (show (5:Nat)≠9 by decide)]
   simp[sz,g0,g2,g4,g5,g6,h.b4]
  b7:=λ_=>by
   have c10:d.contains 10=false:=by
    cases h10:d.contains 10 with
    |false=>rfl
    |true=>rw[h.c109 h10]at hc;cases hc
   rw[zaa (show (10:Nat)≠9 by decide),c10]
   simp[sz,g0,g2,g4,g5,g6,rc0]
  f27:=λa0 a5=>by
   rw[zaa (show (0:Nat)≠9 by decide)]at a0
   rw[zaa (show (5:Nat)≠9 by decide)]at a5
   simp[h.f27 a0 a5,sz,g0,g2,g4,g5,g6]
  f28:=λa1=>by
   rw[zaa (show (1:Nat)≠9 by decide)]at a1
   simp[h.f28 a1,sz,g0,g2,g4,g5,g6]
  f29:=λa2=>by
   rw[zaa (show (2:Nat)≠9 by decide)]at a2
   simp[h.f29 a2,sz,g0,g2,g4,g5,g6]
  f30:=λa3=>by
   rw[zaa (show (3:Nat)≠9 by decide)]at a3
   simp[h.f30 a3,sz,g0,g2,g4,g5,g6]
  f31:=λa4=>by
   rw[zaa (show (4:Nat)≠9 by decide)]at a4
   simp[h.f31 a4,sz,g0,g2,g4,g5,g6]
  f32:=λa5 a6=>by
   rw[zaa (show (5:Nat)≠9 by decide)]at a5
   rw[zaa (show (6:Nat)≠9 by decide)]at a6
   simp[h.f32 a5 a6,sz,g0,g2,g4,g5,g6]
  f26a:=λa6 a7=>by
   rw[zaa (show (6:Nat)≠9 by decide)]at a6
   rw[zaa (show (7:Nat)≠9 by decide)]at a7
   simp[h.f26a a6 a7,sz,g0,g2,g4,g5,g6]
  f26b:=λa6 a7=>by
   rw[zaa (show (6:Nat)≠9 by decide)]at a6
   rw[zaa (show (7:Nat)≠9 by decide)]at a7
   simp[h.f26b a6 a7,sz,g0,g2,g4,g5,g6]
  f33:=λa7 a10=>by
   rw[zaa (show (7:Nat)≠9 by decide)]at a7
   rw[zaa (show (10:Nat)≠9 by decide)]at a10
   simp[h.f33 a7 a10,sz,g0,g2,g4,g5,g6]
  f34:=λa8=>by
   rw[zaa (show (8:Nat)≠9 by decide)]at a8
   simp[h.f34 a8,sz,g0,g2,g4,g5,g6]
  f7:=λa9=>by
   simp[sz,g0,g2,g4,g5,g6]
  f8:=λa11=>by
   rw[zaa (show (11:Nat)≠9 by decide)]at a11
   simp[h.f8 a11,sz,g0,g2,g4,g5,g6]}
set_option maxHeartbeats 1000000 in
theorem z63{t:List UInt8}{xs:za2}{x:List UInt8}{r r2:Rc}{b:Bool}{i:Nat}(H:GetH xs x r r2 b i){B:Nat->Option (List A)}{d:List Nat}{E:Env}(h:GetI t xs x r r2 b i B d E)(hc:d.contains 10=false)(hw:∀j∈[9,7,5,0,1,2,3,4,6],d.contains j=true):
 ∃q e1,zmn[10]? =some q/\zdc Tryz.prog ioS C q E=some e1/\GetI t xs x r r2 b i B (10::d) e1:=by
 refine zcd rfl ?_;have w9:d.contains 9=true:=hw 9 (by simp)
 have w7:d.contains 7=true:=hw 7 (by simp)
 have w5:d.contains 5=true:=hw 5 (by simp)
 have w0:d.contains 0=true:=hw 0 (by simp)
 have w1:d.contains 1=true:=hw 1 (by simp)
 have w2:d.contains 2=true:=hw 2 (by simp)
 have w3:d.contains 3=true:=hw 3 (by simp)
 have w4:d.contains 4=true:=hw 4 (by simp)
 have w6:d.contains 6=true:=hw 6 (by simp)
 have sz:=h.sz;have g0:=h.g0;have g2:=h.g2;have g4:=h.g4;have g5:=h.g5;have g6:=h.g6;have bb:=h.b4;have n_f33:=h.f33 w7 hc;have n_f7:=h.f7 w9;have n_b7:=h.b7 w9;rw[hc]at n_b7;simp only[Bool.false_eq_true,if_false]at n_b7;simp[sz,g0,g2,g4,g5,g6,n_f33,n_f7,n_b7]
 exact{
  c50:=λa=>by rw[zaa (by decide)]at a ⊢;exact h.c50 a
  c109:=λ_=>by rw[zaa (by decide)];exact w9
  c76:=λa=>by rw[zaa (by decide)]at a ⊢;exact h.c76 a
  sz:=by simp[sz,g0,g2,g4,g5,g6,n_f33,n_f7,n_b7]
  g0:=by simp[sz,g0,g2,g4,g5,g6,n_f33,n_f7,n_b7]
  g2:=by simp[sz,g0,g2,g4,g5,g6,n_f33,n_f7,n_b7]
  g4:=by simp[sz,g0,g2,g4,g5,g6,n_f33,n_f7,n_b7]
  g5:=by simp[sz,g0,g2,g4,g5,g6,n_f33,n_f7,n_b7]
  g6:=by simp[sz,g0,g2,g4,g5,g6,n_f33,n_f7,n_b7]
  bo:=λj j4 j7=>by
   have:=h.bo j j4 j7;simp[j4,j7,this,sz,g0,g2,g4,g5,g6,n_f33,n_f7,n_b7]
  b4:=by
   rw[zaa (show (5:Nat)≠10 by decide)]
   simp[sz,g0,g2,g4,g5,g6,n_f33,n_f7,n_b7,h.b4]
  b7:=λ_=>by
   rw[zhb];simp[sz,g0,g2,g4,g5,g6,n_f33,n_f7,n_b7]
  f27:=λa0 a5=>by
   rw[zaa (show (0:Nat)≠10 by decide)]at a0
   rw[zaa (show (5:Nat)≠10 by decide)]at a5
   simp[h.f27 a0 a5,sz,g0,g2,g4,g5,g6,n_f33,n_f7,n_b7]
  f28:=λa1=>by
   rw[zaa (show (1:Nat)≠10 by decide)]at a1
   simp[h.f28 a1,sz,g0,g2,g4,g5,g6,n_f33,n_f7,n_b7]
  f29:=λa2=>by
   rw[zaa (show (2:Nat)≠10 by decide)]at a2
   simp[h.f29 a2,sz,g0,g2,g4,g5,g6,n_f33,n_f7,n_b7]
  f30:=λa3=>by
   rw[zaa (show (3:Nat)≠10 by decide)]at a3
   simp[h.f30 a3,sz,g0,g2,g4,g5,g6,n_f33,n_f7,n_b7]
  f31:=λa4=>by
   rw[zaa (show (4:Nat)≠10 by decide)]at a4
   simp[h.f31 a4,sz,g0,g2,g4,g5,g6,n_f33,n_f7,n_b7]
  f32:=λa5 a6=>by
   rw[zaa (show (5:Nat)≠10 by decide)]at a5
   rw[zaa (show (6:Nat)≠10 by decide)]at a6
   simp[h.f32 a5 a6,sz,g0,g2,g4,g5,g6,n_f33,n_f7,n_b7]
  f26a:=λa6 a7=>by
   rw[zaa (show (6:Nat)≠10 by decide)]at a6
   rw[zaa (show (7:Nat)≠10 by decide)]at a7
   simp[h.f26a a6 a7,sz,g0,g2,g4,g5,g6,n_f33,n_f7,n_b7]
  f26b:=λa6 a7=>by
   rw[zaa (show (6:Nat)≠10 by decide)]at a6
   rw[zaa (show (7:Nat)≠10 by decide)]at a7
   simp[h.f26b a6 a7,sz,g0,g2,g4,g5,g6,n_f33,n_f7,n_b7]
  f33:=λa7 a10=>by rw[zhb]at a10;cases a10
  f34:=λa8=>by
   rw[zaa (show (8:Nat)≠10 by decide)]at a8
   simp[h.f34 a8,sz,g0,g2,g4,g5,g6,n_f33,n_f7,n_b7]
  f7:=λa9=>by
   rw[zaa (show (9:Nat)≠10 by decide)]at a9
   simp[h.f7 a9,sz,g0,g2,g4,g5,g6,n_f33,n_f7,n_b7]
  f8:=λa11=>by
   rw[zaa (show (11:Nat)≠10 by decide)]at a11
   simp[h.f8 a11,sz,g0,g2,g4,g5,g6,n_f33,n_f7,n_b7]}
set_option maxHeartbeats 1000000 in
theorem z64{t:List UInt8}{xs:za2}{x:List UInt8}{r r2:Rc}{b:Bool}{i:Nat}(H:GetH xs x r r2 b i){B:Nat->Option (List A)}{d:List Nat}{E:Env}(h:GetI t xs x r r2 b i B d E)(hc:d.contains 11=false)(hw:∀j∈[8,10,0,1,2,3,4,5,6,7,9],d.contains j=true):
 ∃q e1,zmn[11]? =some q/\zdc Tryz.prog ioS C q E=some e1/\GetI t xs x r r2 b i B (11::d) e1:=by
 refine zcd rfl ?_;have w8:d.contains 8=true:=hw 8 (by simp)
 have w10:d.contains 10=true:=hw 10 (by simp)
 have w0:d.contains 0=true:=hw 0 (by simp)
 have w1:d.contains 1=true:=hw 1 (by simp)
 have w2:d.contains 2=true:=hw 2 (by simp)
 have w3:d.contains 3=true:=hw 3 (by simp)
 have w4:d.contains 4=true:=hw 4 (by simp)
 have w5:d.contains 5=true:=hw 5 (by simp)
 have w6:d.contains 6=true:=hw 6 (by simp)
 have w7:d.contains 7=true:=hw 7 (by simp)
 have w9:d.contains 9=true:=hw 9 (by simp)
 have sz:=h.sz;have g0:=h.g0;have g2:=h.g2;have g4:=h.g4;have g5:=h.g5;have g6:=h.g6;have bb:=h.b4;have n_f34:=h.f34 w8;simp[sz,g0,g2,g4,g5,g6,n_f34]
 exact{
  c50:=λa=>by rw[zaa (by decide)]at a ⊢;exact h.c50 a
  c109:=λa=>by rw[zaa (by decide)]at a ⊢;exact h.c109 a
  c76:=λa=>by rw[zaa (by decide)]at a ⊢;exact h.c76 a
  sz:=by simp[sz,g0,g2,g4,g5,g6,n_f34]
  g0:=by simp[sz,g0,g2,g4,g5,g6,n_f34]
  g2:=by simp[sz,g0,g2,g4,g5,g6,n_f34]
  g4:=by simp[sz,g0,g2,g4,g5,g6,n_f34]
  g5:=by simp[sz,g0,g2,g4,g5,g6,n_f34]
  g6:=by simp[sz,g0,g2,g4,g5,g6,n_f34]
  bo:=λj j4 j7=>by
   have:=h.bo j j4 j7;simp[j4,j7,this,sz,g0,g2,g4,g5,g6,n_f34]
  b4:=by
   rw[zaa (show (5:Nat)≠11 by decide)]
   simp[sz,g0,g2,g4,g5,g6,n_f34,h.b4]
  b7:=λa=>by
   rw[zaa (show (9:Nat)≠11 by decide)]at a
   rw[zaa (show (10:Nat)≠11 by decide)]
   simp[h.b7 a,sz,g0,g2,g4,g5,g6,n_f34]
  f27:=λa0 a5=>by
   rw[zaa (show (0:Nat)≠11 by decide)]at a0
   rw[zaa (show (5:Nat)≠11 by decide)]at a5
   simp[h.f27 a0 a5,sz,g0,g2,g4,g5,g6,n_f34]
  f28:=λa1=>by
   rw[zaa (show (1:Nat)≠11 by decide)]at a1
   simp[h.f28 a1,sz,g0,g2,g4,g5,g6,n_f34]
  f29:=λa2=>by
   rw[zaa (show (2:Nat)≠11 by decide)]at a2
   simp[h.f29 a2,sz,g0,g2,g4,g5,g6,n_f34]
  f30:=λa3=>by
   rw[zaa (show (3:Nat)≠11 by decide)]at a3
   simp[h.f30 a3,sz,g0,g2,g4,g5,g6,n_f34]
  f31:=λa4=>by
   rw[zaa (show (4:Nat)≠11 by decide)]at a4
   simp[h.f31 a4,sz,g0,g2,g4,g5,g6,n_f34]
  f32:=λa5 a6=>by
   rw[zaa (show (5:Nat)≠11 by decide)]at a5
   rw[zaa (show (6:Nat)≠11 by decide)]at a6
   simp[h.f32 a5 a6,sz,g0,g2,g4,g5,g6,n_f34]
  f26a:=λa6 a7=>by
   rw[zaa (show (6:Nat)≠11 by decide)]at a6
   rw[zaa (show (7:Nat)≠11 by decide)]at a7
   simp[h.f26a a6 a7,sz,g0,g2,g4,g5,g6,n_f34]
  f26b:=λa6 a7=>by
   rw[zaa (show (6:Nat)≠11 by decide)]at a6
   rw[zaa (show (7:Nat)≠11 by decide)]at a7
   simp[h.f26b a6 a7,sz,g0,g2,g4,g5,g6,n_f34]
  f33:=λa7 a10=>by
   rw[zaa (show (7:Nat)≠11 by decide)]at a7
   rw[zaa (show (10:Nat)≠11 by decide)]at a10
   simp[h.f33 a7 a10,sz,g0,g2,g4,g5,g6,n_f34]
  f34:=λa8=>by
   rw[zaa (show (8:Nat)≠11 by decide)]at a8
   simp[h.f34 a8,sz,g0,g2,g4,g5,g6,n_f34]
  f7:=λa9=>by
   rw[zaa (show (9:Nat)≠11 by decide)]at a9
   simp[h.f7 a9,sz,g0,g2,g4,g5,g6,n_f34]
  f8:=λa11=>by
   simp[sz,g0,g2,g4,g5,g6,n_f34]}
end Go.Qz
namespace Go.Qz
open Go.Proofs
theorem yak(t:List UInt8)(h:t.length<=1048576):neSz (zls t).1:=zrz t h
set_option maxHeartbeats 4000000 in
theorem zr2(t:List UInt8)(h:t.length<=1048576):C Fn27 [.ro (T t)] []=some (.tup [.own (RcD (getS t).1),.ro (.bool (getS t).2)],[]):=by
 refine zae Tryz.func27 Cv27 rfl ?_;have hcut:=zjz t 10 10 rfl h;have hwl:IntKind.i64.wrap ((t.length:Int)+1)=((t.length+1:Nat):Int):=zad (by omega)
 have hcnt:=zfi 10 t;have hmem:=zfh 10 t;have hne:=zg4 10 t;unfold getS;generalize zav 10 t=xs at *;obtain⟨L,hL⟩:∃L,L=xs.dropLast.take 60:=⟨_,rfl⟩;obtain⟨R,hR⟩:∃R,zb5 zls rc0 L=R:=⟨_,rfl⟩;rw[<-hL,hR];have hxl:1<=xs.length:=by cases xs with|nil=>exact absurd rfl hne|cons a b=>simp
 have hLl:L.length=min 60 (xs.length-1):=by rw[hL,List.length_take,List.length_dropLast]
 have hLx:∀i (hi:i<L.length),∃h2:i<xs.length,xs[i]=L[i]:=by
  intro i hi;refine⟨by omega,?_⟩
  subst hL;simp
 have hLm:∀x∈L,x.length<=1048576:=λx hx=>by
  rw[hL]at hx;have:=hmem x (List.dropLast_subset _ (List.mem_of_mem_take hx));omega
 clear hL hmem;obtain⟨W,hW⟩:∃W,(if R.2&&(decide (t.length<=1500)&&(decide (zc6 R.1=0)&&putR R.1==t))then R else(rc0,false))=W:=⟨_,rfl⟩
 rw[hW]
 have go2:∀(r:Rc) (e:Env),RcN 60 r->R=(r,true)->e.size=55->e.get 0=.one (.ro (T t))->e.get 2=.one (.ptr 2 0)->e.box 2=some (RBo rc0)->e.get 4=.one (.ptr 4 0)->e.box 4=some (RBo r)->
  Run cx q27c4 e [.fn [(.cell 2 29,29),(.tmp 3,4)] []]=some (.tup [.own (RcD W.1),.ro (.bool W.2)],[]):=by
  intro r e hN hr hsz e0 e2 b2 e4 b4;rw[<-hW];subst hr;simp only[Bool.true_and];have hc:=zos r hN.sz;by_cases hlen:t.length<=1500
  ·have h1:¬(1500:Int)<(t.length:Int):=by omega
   by_cases hz:zc6 r=0
   ·have hput:=z99 r hN.sz (by have:=zzq (zoq (zgm hz).1);omega)
    rw[hz]at hc;by_cases hq:putR r=t
    ·simp[hsz,e0,e2,b2,e4,b4,h1,hc,hput,hlen,hz,hq]
    ·have hq':(putR r==t)=false:=by simpa using hq
     simp[hsz,e0,e2,b2,e4,b4,h1,hc,hput,hlen,hz,hq,hq',rc0]
   ·have hz':(zc6 r==0)=false:=by simpa using hz
    simp[hsz,e0,e2,b2,e4,b4,h1,hc,hlen,hz,hz',rc0]
  ·have h1:(1500:Int)<(t.length:Int):=by omega
   simp[hsz,e0,e2,b2,e4,b4,h1,hlen,rc0]
 simp[hwl,hcut,-z4p]
 refine zai (λm e=> ∃i r,m=L.length-i/\i<=L.length/\RcN i r/\e.size=55/\e.get 0=.one (.ro (T t))/\e.get 2=.one (.ptr 2 0)/\e.box 2=some (RBo rc0)/\e.get 4=.one (.ptr 4 0)/\e.box 4=some (RBo r)/\e.get 5=.one (.own (SS xs))/\e.get 6=.one (.ro (N i))/\zb5 zls r (L.drop i)=R)
  ?_ L.length _ ⟨0,rc0,rfl,Nat.zero_le _,rc0_N,by simp,by simp,by simp,by simp[rc0],by simp,by simp[rc0],by simp,by simp,hR⟩
 rintro m e ⟨i,r,rfl,hi,hN,hsz,e0,e2,b2,e4,b4,e5,e6,hr⟩ ih;have hwi:IntKind.i64.wrap ((i:Int)+1)=((i+1:Nat):Int):=zad (by omega)
 rcases Nat.lt_or_ge i L.length with hlt|hge
 ·have hd:L.drop i=L[i]::L.drop (i+1):=List.drop_eq_getElem_cons hlt;obtain⟨hix,hxe⟩:=hLx i hlt;have hln:=z6z r L[i] i hN (by omega) (hLm _ (List.getElem_mem hlt))
  have hN2:=z62 yak hN (by omega) (hLm _ (List.getElem_mem hlt))
  have hi1:(i:Int)+1<(xs.length:Int):=by omega
  have hi60:(i:Int)<60:=by omega
  rw[hd,zb5]at hr;have hxe2:xs[i]? =some L[i]:=by rw[List.getElem?_eq_getElem hix,hxe]
  generalize L[i]=x at *;generalize zdm zls r x=v at *;obtain⟨r2,b⟩:=v;simp only at hln hr hN2;have H:GetH xs x r r2 b i:=⟨hix,hxe2,hln⟩;clear hln;simp[hsz,e0,e5,e6,hwi,hi1,hi60]
  refine z8h _ (sz:=55) (bx:=λk=>if k=7 then some (RBo r2)else if k=4 then some [.ro (T r.name),.ro (T r.ver),.dead,.dead,.dead,.dead,.dead,.dead]else e.box k)
   (ts:=[(0,.one (.ro (T t))),(2,.one (.ptr 2 0)),(4,.one (.ptr 4 0)),(5,.one (.own (SS xs))),(6,.one (.ro (N i))),(7,.one (.ptr 7 0)),(8,.one (.ro (.bool b)))]) ?_ ?_
  ·refine zww (GetI t xs x r r2 b i e.box) (by decide) ?_ ?_ _ _ _ (by decide) ?_
   ·intro d E hd hI;have d5:=hd 5 (by decide)
    have d7:=hd 7 (by decide)
    have d9:=hd 9 (by decide)
    have d10:=hd 10 (by decide)
    have d11:=hd 11 (by decide)
    have h4:=hI.b4;have h7:=hI.b7 d9;rw[d5]at h4;rw[d10]at h7;simp only[if_true]at h4 h7;have q7:=hI.f7 d9;have q8:=hI.f8 d11;refine⟨hI.sz,λk=>?_,?_⟩
    ·by_cases k7:k=7
     ·subst k7;rw[if_pos rfl];exact h7
     ·by_cases k4:k=4
      ·subst k4;rw[if_neg (by decide),if_pos rfl];exact h4
      ·rw[if_neg k7,if_neg k4];exact hI.bo k k4 k7
    ·intro y hy;simp only[List.mem_cons,List.not_mem_nil,or_false]at hy;rcases hy with rfl|rfl|rfl|rfl|rfl|rfl|rfl
     ·exact hI.g0
     ·exact hI.g2
     ·exact hI.g4
     ·exact hI.g5
     ·exact hI.g6
     ·exact q7
     ·exact q8
   ·intro d E k hk hc hw hI;have hk12:k<12:=hk;rcases(by omega:k=0∨k=1∨k=2∨k=3∨k=4∨k=5∨k=6∨k=7∨k=8∨k=9∨k=10∨k=11)with rfl|rfl|rfl|rfl|rfl|rfl|rfl|rfl|rfl|rfl|rfl|rfl
    ·exact yaa H hI hc
    ·exact yab H hI hc
    ·exact yac H hI hc
    ·exact yad H hI hc hw
    ·exact yae H hI hc hw
    ·exact yaf H hI hc hw
    ·exact yag H hI hc hw
    ·exact yah H hI hc hw
    ·exact yai H hI hc hw
    ·exact yaj H hI hc
    ·exact z63 H hI hc (λj hj=>hw j (by simp at hj ⊢;omega))
    ·exact z64 H hI hc (λj hj=>hw j (by simp at hj ⊢;omega))
   ·exact{
     c50:=(λa=>nomatch a)
     c109:=(λa=>nomatch a)
     c76:=(λa=>nomatch a)
     sz:=by simp[hsz]
     g0:=by simp[e0]
     g2:=by simp[e2]
     g4:=by simp[e4]
     g5:=by simp[e5]
     g6:=by simp[e6]
     bo:=λk _ _=>by simp
     b4:=by simp[b4]
     b7:=(λa=>nomatch a)
     f27:=(λa=>nomatch a)
     f28:=(λa=>nomatch a)
     f29:=(λa=>nomatch a)
     f30:=(λa=>nomatch a)
     f31:=(λa=>nomatch a)
     f32:=(λa=>nomatch a)
     f26a:=(λa=>nomatch a)
     f26b:=(λa=>nomatch a)
     f33:=(λa=>nomatch a)
     f34:=(λa=>nomatch a)
     f7:=(λa=>nomatch a)
     f8:=(λa=>nomatch a)}
  ·intro e' s' b' t';have n0:=t' _ (by simp:((0:Nat),V.one (.ro (T t)))∈_)
   have n2:=t' (2,.one (.ptr 2 0)) (by simp)
   have n4:=t' (4,.one (.ptr 4 0)) (by simp)
   have n5:=t' (5,.one (.own (SS xs))) (by simp)
   have n6:=t' (6,.one (.ro (N i))) (by simp)
   have n7:=t' (7,.one (.ptr 7 0)) (by simp)
   have n8:=t' (8,.one (.ro (.bool b))) (by simp)
   have m7:=b' 7;have m4:=b' 4;have m2:=b' 2;simp only at n0 n2 n4 n5 n6 n7 n8;simp only[if_true,show ¬((4:Nat)=7) by decide,show ¬((2:Nat)=7) by decide,show ¬((2:Nat)=4) by decide,if_false,b2]at m7 m4 m2
   cases b with
   |false=>
    simp only[Bool.false_eq_true,if_false]at hr;have hW2:W=(rc0,false):=by rw[<-hW,<-hr];rfl
    rw[hW2];simp[s',n0,n2,n4,n5,n6,n7,n8,m7,m4,m2,rc0]
   |true=>
    simp only[if_true]at hr;simp[s',n0,n2,n4,n5,n6,n7,n8,m7,m4,m2,hwi];exact ih _ _ (by omega) ⟨i+1,r2,rfl,by omega,hN2,by simp[s'],by simp[n0],by simp[n2],by simp[m2],by simp[n4],by simp,by simp[n5],by simp,hr⟩
 ·obtain rfl:i=L.length:=by omega
  rw[List.drop_length,zb5]at hr;have hN60:RcN 60 r:=⟨hN.sz,by have:=hN.lets;omega,by have:=hN.builds;omega,by have:=hN.runs;omega,by have:=hN.srcs;omega,by have:=hN.pcs;omega,by have:=hN.steps;omega⟩
  by_cases h1:(L.length:Int)+1<(xs.length:Int)
  ·have h60:¬(L.length:Int)<60:=by omega
   simp[hsz,e5,e6,hwi,h1,h60,-z4p];exact go2 r _ hN60 hr.symm (by simp[hsz]) (by simp[e0]) (by simp[e2]) (by simp[b2]) (by simp[e4]) (by simp[b4])
  ·simp[hsz,e5,e6,hwi,h1,-z4p];exact go2 r _ hN60 hr.symm (by simp[hsz]) (by simp[e0]) (by simp[e2]) (by simp[b2]) (by simp[e4]) (by simp[b4])
end Go.Qz
namespace Go.Qz
open Go.Proofs
theorem ye9:RcSz rc0:=rc0_N.sz
theorem ycv{r:Rc}(h:Fine r):RcSz r:=by
 have hl:=h.lets;have hb:=h.builds;have hu:=h.runs;have hs:=h.srcs;have hp:=h.pcs;have ht:=h.steps;refine⟨by have:=(zcc h.name).2;omega,by have:=(zkz h.ver).2;omega,by omega,by omega,by omega,by omega,by omega,by omega,λf hf=>?_,λf hf=>?_,λf hf=>?_,λf hf=>?_,λf hf=>?_,λf hf=>?_⟩
 ·have:=hl.1 f hf;unfold letB at this;rw[Bool.and_eq_true]at this;exact⟨by have:=(zcc this.1).2;omega,by have:=(zid this.2).2;omega⟩
 ·obtain⟨h1,h2⟩:=zk0 (hb.1 f hf);refine⟨by have:=(zcc h1).2;omega,?_⟩
  rcases h2 with⟨_,h2⟩|⟨_,h2⟩
  ·rw[h2];simp
  ·have:=(zkz h2).2;omega
 ·obtain⟨h1,h2⟩:=zk0 (hu.1 f hf);refine⟨by have:=(zcc h1).2;omega,?_⟩
  rcases h2 with⟨_,h2⟩|⟨_,h2⟩
  ·rw[h2];simp
  ·have:=(zkz h2).2;omega
 ·have:=zru (hs.1 f hf);exact⟨by omega,by omega⟩
 ·have:=hp.1 f hf;unfold pcOk at this;rw[Bool.and_eq_true]at this;exact⟨by have:=(zcc this.1).2;omega,by have:=(zu2 this.2).2;omega⟩
 ·have:=(zid (ht.1 f hf)).2;omega
theorem ycw(t:List UInt8):RcSz (getI t).1:=by
 cases h:(getI t).2 with
 |true=>exact ycv (zoq (zgm (zva h).1).1)
 |false=>rw[zzs h];exact ye9
end Go.Qz
namespace Go.Qz
open Go.Proofs
theorem zee{α:Type}{ys xs:List α}(h:ys.length=xs.length)(h':∀j,j<xs.length->ys[j]? =xs[j]?):ys=xs:=by
 apply List.ext_getElem?;intro j;rcases Nat.lt_or_ge j xs.length with hj|hj
 ·exact h' j hj
 ·rw[List.getElem?_eq_none hj,List.getElem?_eq_none (by omega)]
def dig(n:Nat)(l:List UInt8):List UInt8:=if h:n=0 then l else dig (n/10) ((48+n % 10).toUInt8::l)
termination_by n
decreasing_by omega
theorem yal(l:List UInt8):dig 0 l=l:=by rw[dig];rfl
theorem ycx(n:Nat)(l:List UInt8)(h:0<n):dig n l=dig (n/10) ((48+n % 10).toUInt8::l):=by
 rw[dig,dif_neg (by omega)]
def zd3(n:Nat):List UInt8:=if n=0 then [109,48]else 109::dig n []
theorem zax(n:Nat)(hn:n<=1099511627776):C Fn60 [.ro (N n)] []=some (.one (.ro (T (zd3 n))),[]):=by
 refine zae Tryz.func60 Cv60 rfl ?_;unfold zd3;by_cases h0:n=0
 ·subst h0;simp
 have hp:¬((n:Int)<=0):=by omega
 simp[h0]
 refine zai (λm e=> ∃k l,m=k/\l.length+k<=n/\e.size=20/\e.get 0=.one (.ro (N k))/\e.get 3=.one (.ro (T l))/\dig k l=dig n [])
  ?_ n _ ⟨n,[],rfl,by simp,by simp,by simp,by simp,rfl⟩
 rintro m e ⟨k,l,rfl,hl,hsz,h0,h3,hr⟩ ih;rcases Nat.eq_zero_or_pos m with rfl|hm
 ·rw[yal]at hr;have hms:1+l.length<=zak:=by simp[zak];omega
  subst hr;simp[hsz,h0,h3,hms]
 ·have hr1:((m:Int)).tmod 10=((m % 10:Nat):Int):=by rw[Int.ofNat_tmod];rfl
  have hq1:((m:Int)).tdiv 10=((m/10:Nat):Int):=by rw[Int.ofNat_tdiv];rfl
  rw[ycx _ _ hm]at hr;have hrl:m % 10<10:=Nat.mod_lt _ (by omega)
  have hql:m/10<m:=by omega
  generalize m % 10=r at *;generalize m/10=q at *;have hw1:IntKind.i64.wrap (48+(r:Int))=((48+r:Nat):Int):=by rw[wrap64 (by omega) (by omega)];omega
  have hw2:IntKind.i64.wrap (q:Int)=(q:Int):=wrap64 (by omega) (by omega)
  have hw3:IntKind.u8.wrap ((48+r:Nat):Int)=((48+r:Nat):Int):=by
   show ((48+r:Nat):Int) % 256=_;omega
  have hms:1+l.length<=zak:=by simp[zak];omega
  have hpos:(0:Int)<m:=by omega
  generalize 48+r=z at *;have hpos':0<m:=hm;simp[hsz,h0,h3,hpos',hr1,hq1,hw1,hw2,hw3,hms];exact ih _ _ hql ⟨q,z.toUInt8::l,rfl,by simp;omega,by simp[hsz],by simp,by simp,hr⟩
def zmo(n k:Nat):za2:=(List.range n).map λj=>zd3 (k+j)
@[simp] theorem z65(n k:Nat):(zmo n k).length=n:=by simp[zmo]
theorem z66(n k j:Nat)(h:j<n):(zmo n k)[j]? =some (zd3 (k+j)):=by simp[zmo,h]
theorem z1z(n k j:Nat)(h:j<(zmo n k).length):(zmo n k)[j]=zd3 (k+j):=by simp[zmo]
theorem zo9(xs:za2)(k:Nat)(hk:k<=549755813888)(hn:xs.length<=1048576):
 C Fn23 [.view ⟨.cell 10000 0,[]⟩,.ro (N k)] [(10000,[.own (SS xs)])]=some (.one (.ro (N (k+xs.length))),[(10000,[.own (SS (zmo xs.length k))])]):=by
 refine zae Tryz.func23 Cv23 rfl ?_;simp
 refine zai (λm e=> ∃i yl,m=xs.length-i/\i<=xs.length/\e.size=20/\e.get 0=.one (.view ⟨.cell 10000 0,[]⟩)/\e.box 10000=some [.own (SS yl)]/\e.get 1=.one (.ro (N (k+i)))/\e.get 5=.one (.ro (N i))/\yl.length=xs.length/\ ∀j,j<i->yl[j]? =some (zd3 (k+j)))
  ?_ xs.length _ ⟨0,xs,rfl,Nat.zero_le _,by simp,by simp,by simp,by simp,by simp,rfl,λj hj=>by omega⟩
 rintro m e ⟨i,yl,rfl,hi,hsz,h0,hb,h1,h5,hyl,hy⟩ ih;rcases Nat.lt_or_ge i xs.length with hlt|hge
 ·have hwi:IntKind.i64.wrap ((i:Int)+1)=((i+1:Nat):Int):=zad (by omega)
  have hlt':i<yl.length:=by omega
  have hm:=zax (k+i) (by omega)
  generalize hq:k+i=q at *;have hwq:IntKind.i64.wrap ((q:Int)+1)=((q+1:Nat):Int):=zad (by omega)
  simp[hsz,h0,hb,h1,h5,hlt,hwi,hwq,hm,hyl]
  exact ih _ _ (by omega) ⟨i+1,yl.set i (zd3 q),rfl,by omega,by simp[hsz],by simp[h0],by simp,by simp[<-hq];omega,by simp,by simp[hyl],λj hj=>by
   by_cases e:j=i
   ·subst e;simp[hlt',hq]
   ·rw[List.getElem?_set_ne (by omega)];exact hy j (by omega)⟩
 ·obtain rfl:i=xs.length:=by omega
  have:yl=zmo xs.length k:=zee (by simp[hyl]) (λj hj=>by rw[z65]at hj;rw[hy j hj,z66 _ _ _ hj])
  subst this;simp[hsz,h0,hb,h1,h5]
theorem zpa(n k:Nat)(hk:k<=549755813888)(hn:n<=1048576):
 C Fn24 [.ro (SS (zmo n k)),.ro (N k)] []=some (.one (.ro (N (k+n))),[]):=by
 refine zae Tryz.func24 Cv24 rfl ?_;simp
 refine zai (λm e=> ∃i,m=n-i/\i<=n/\e.size=22/\e.get 0=.one (.ro (SS (zmo n k)))/\e.get 1=.one (.ro (N (k+i)))/\e.get 5=.one (.ro (N i)))
  ?_ n _ ⟨0,rfl,Nat.zero_le _,by simp,by simp,by simp,by simp⟩
 rintro m e ⟨i,rfl,hi,hsz,h0,h1,h5⟩ ih;rcases Nat.lt_or_ge i n with hlt|hge
 ·have hwi:IntKind.i64.wrap ((i:Int)+1)=((i+1:Nat):Int):=zad (by omega)
  have hm:=zax (k+i) (by omega)
  generalize hq:k+i=q at *;have hwq:IntKind.i64.wrap ((q:Int)+1)=((q+1:Nat):Int):=zad (by omega)
  simp[hsz,h0,h1,h5,hlt,hwi,hwq,hm,z1z,hq];exact ih _ _ (by omega) ⟨i+1,rfl,by omega,by simp[hsz],by simp[h0],by simp[<-hq];omega,by simp⟩
 ·obtain rfl:i=n:=by omega
  simp[hsz,h0,h1,h5]
end Go.Qz
namespace Go.Qz
open Go.Proofs
def zbc{α:Type}(f:Nat->α)(s:Nat):Nat->Nat->List α
 |0,_=>[]
 |n+1,k=>f k::zbc f s n (k+s)
theorem zbb{α:Type}(f:Nat->α)(s:Nat):∀n k,(zbc f s n k).length=n
 |0,_=>rfl
 |n+1,k=>by rw[zbc,List.length_cons,zbb f s]
theorem zd4{α:Type}(f:Nat->α)(s:Nat):∀(n k j:Nat),j<n->(zbc f s n k)[j]? =some (f (k+s*j))
 |0,k,j,h=>by omega
 |n+1,k,0,h=>rfl
 |n+1,k,j+1,h=>by
  rw[zbc,List.getElem?_cons_succ,zd4 f s n (k+s) j (by omega)]
  rw[show k+s+s*j=k+s*(j+1) by rw[Nat.mul_add];omega]
theorem zfw{α:Type}(f:Nat->α)(s n k j:Nat)(h:j<(zbc f s n k).length):(zbc f s n k)[j]=f (k+s*j):=by
 have h1:=zd4 f s n k j (by rw[zbb]at h;exact h)
 rw[List.getElem?_eq_getElem h]at h1;exact Option.some.inj h1
def zhi(k:Nat):Ne:=⟨zd3 k,((k+1:Nat):Int),zd3 (k+2)⟩
set_option maxHeartbeats 1000000 in
set_option maxRecDepth 4000 in
theorem zmh(es:List Ne)(k:Nat)(hk:k<=100000000)(hn:es.length<=1048576):
 C Fn57 [.view ⟨.cell 10000 0,[]⟩,.ro (N k)] [(10000,[.own (NeS es)])]=some (.one (.ro (N (k+3*es.length))),[(10000,[.own (NeS (zbc zhi 3 es.length k))])]):=by
 refine zae Tryz.func57 Cv57 rfl ?_;simp
 refine zai (λm e=> ∃i yl,m=es.length-i/\i<=es.length/\e.size=36/\e.get 0=.one (.view ⟨.cell 10000 0,[]⟩)/\e.box 10000=some [.own (NeS yl)]/\e.get 1=.one (.ro (N (k+3*i)))/\e.get 5=.one (.ro (N i))/\
  yl.length=es.length/\ ∀j,j<i->yl[j]? =some (zhi (k+3*j)))
  ?_ es.length _ ⟨0,es,rfl,Nat.zero_le _,by simp,by simp,by simp,by simp,by simp,rfl,λj hj=>by omega⟩
 rintro m e ⟨i,yl,rfl,hi,hsz,h0,hb,h1,h5,hyl,hy⟩ ih;rcases Nat.lt_or_ge i es.length with hlt|hge
 ·have hwi:IntKind.i64.wrap ((i:Int)+1)=((i+1:Nat):Int):=zad (by omega)
  have hlt':i<yl.length:=by omega
  obtain⟨q0,hq⟩:∃q,k+3*i=q:=⟨_,rfl⟩;rw[hq]at h1;have hwq0:IntKind.i64.wrap ((q0:Int)+1)=((q0+1:Nat):Int):=zad (by omega)
  obtain⟨q1,hq1⟩:∃q,q0+1=q:=⟨_,rfl⟩;rw[hq1]at hwq0;have hm0:=zax q0 (by omega)
  have hwq1:IntKind.i64.wrap ((q1:Int)+1)=((q1+1:Nat):Int):=zad (by omega)
  obtain⟨q2,hq2⟩:∃q,q1+1=q:=⟨_,rfl⟩;rw[hq2]at hwq1;have hwq2:IntKind.i64.wrap ((q2:Int)+1)=((q2+1:Nat):Int):=zad (by omega)
  obtain⟨q3,hq3⟩:∃q,q2+1=q:=⟨_,rfl⟩;rw[hq3]at hwq2;have hm2:=zax q2 (by omega)
  have hmk:zhi q0=⟨zd3 q0,(q1:Int),zd3 q2⟩:=by subst hq3 hq2 hq1;rfl
  simp[hsz,h0,hb,h1,h5,hlt,hwi,hwq0,hwq1,hwq2,hm0,hm2,hyl]
  exact ih _ _ (by omega) ⟨i+1,yl.set i (zhi q0),rfl,by omega,by simp[hsz],by simp[h0],by simp[List.map_set,hmk],by simp;omega,by simp,by simp[hyl],λj hj=>by
   by_cases e:j=i
   ·subst e;simp[hlt',hq]
   ·rw[List.getElem?_set_ne (by omega)];exact hy j (by omega)⟩
 ·obtain rfl:i=es.length:=by omega
  have:yl=zbc zhi 3 es.length k:=zee (by rw[hyl,zbb]) (λj hj=>by rw[zbb]at hj;rw[hy j hj,zd4 _ _ _ _ _ hj])
  subst this;simp[hsz,h0,hb,h1,h5,hyl]
set_option maxHeartbeats 1000000 in
set_option maxRecDepth 4000 in
theorem zmi(n k:Nat)(hk:k<=100000000)(hn:n<=1048576):
 C Fn73 [.ro (NeS (zbc zhi 3 n k)),.ro (N k)] []=some (.one (.ro (N (k+3*n))),[]):=by
 refine zae Tryz.func73 Cv73 rfl ?_;have hml:=zbb zhi 3 n k;have hge:=zfw zhi 3 n k;generalize zbc zhi 3 n k=ms at *;simp
 refine zai (λm e=> ∃i,m=n-i/\i<=n/\e.size=42/\e.get 0=.one (.ro (NeS ms))/\e.get 1=.one (.ro (N (k+3*i)))/\e.get 5=.one (.ro (N i)))
  ?_ n _ ⟨0,rfl,Nat.zero_le _,by simp,by simp,by simp,by simp⟩
 rintro m e ⟨i,rfl,hi,hsz,h0,h1,h5⟩ ih;rcases Nat.lt_or_ge i n with hlt|hge2
 ·have hwi:IntKind.i64.wrap ((i:Int)+1)=((i+1:Nat):Int):=zad (by omega)
  have hlt':i<ms.length:=by omega
  have hgi:=hge i hlt';obtain⟨q0,hq⟩:∃q,k+3*i=q:=⟨_,rfl⟩;rw[hq]at h1 hgi;have hwq0:IntKind.i64.wrap ((q0:Int)+1)=((q0+1:Nat):Int):=zad (by omega)
  obtain⟨q1,hq1⟩:∃q,q0+1=q:=⟨_,rfl⟩;rw[hq1]at hwq0;have hm0:=zax q0 (by omega)
  have hwq1:IntKind.i64.wrap ((q1:Int)+1)=((q1+1:Nat):Int):=zad (by omega)
  obtain⟨q2,hq2⟩:∃q,q1+1=q:=⟨_,rfl⟩;rw[hq2]at hwq1;have hwq2:IntKind.i64.wrap ((q2:Int)+1)=((q2+1:Nat):Int):=zad (by omega)
  obtain⟨q3,hq3⟩:∃q,q2+1=q:=⟨_,rfl⟩;rw[hq3]at hwq2;have hm2:=zax q2 (by omega)
  have hmk:zhi q0=⟨zd3 q0,(q1:Int),zd3 q2⟩:=by subst hq3 hq2 hq1;rfl
  rw[hmk]at hgi;simp[hsz,h0,h1,h5,hlt,hml,hgi,hwi,hwq0,hwq1,hwq2,hm0,hm2];exact ih _ _ (by omega) ⟨i+1,rfl,by omega,by simp[hsz],by simp[h0],by simp;omega,by simp⟩
 ·obtain rfl:i=n:=by omega
  simp[hsz,h0,h1,h5,hml]
end Go.Qz
namespace Go.Qz
open Go.Proofs
def zbn(k:Nat):Fl:=(zd3 k,zd3 (k+1))
set_option maxHeartbeats 1000000 in
set_option maxRecDepth 4000 in
theorem zx5(es:List Fl)(k:Nat)(hk:k<=100000000)(hn:es.length<=1048576):
 C Fn56 [.view ⟨.cell 10000 0,[]⟩,.ro (N k)] [(10000,[.own (FS es)])]=some (.one (.ro (N (k+2*es.length))),[(10000,[.own (FS (zbc zbn 2 es.length k))])]):=by
 refine zae Tryz.func56 Cv56 rfl ?_;simp
 refine zai (λm e=> ∃i yl,m=es.length-i/\i<=es.length/\e.size=29/\e.get 0=.one (.view ⟨.cell 10000 0,[]⟩)/\e.box 10000=some [.own (FS yl)]/\e.get 1=.one (.ro (N (k+2*i)))/\e.get 5=.one (.ro (N i))/\
  yl.length=es.length/\ ∀j,j<i->yl[j]? =some (zbn (k+2*j)))
  ?_ es.length _ ⟨0,es,rfl,Nat.zero_le _,by simp,by simp,by simp,by simp,by simp,rfl,λj hj=>by omega⟩
 rintro m e ⟨i,yl,rfl,hi,hsz,h0,hb,h1,h5,hyl,hy⟩ ih;rcases Nat.lt_or_ge i es.length with hlt|hge
 ·have hwi:IntKind.i64.wrap ((i:Int)+1)=((i+1:Nat):Int):=zad (by omega)
  have hlt':i<yl.length:=by omega
  obtain⟨q0,hq⟩:∃q,k+2*i=q:=⟨_,rfl⟩;rw[hq]at h1;have hwq0:IntKind.i64.wrap ((q0:Int)+1)=((q0+1:Nat):Int):=zad (by omega)
  obtain⟨q1,hq1⟩:∃q,q0+1=q:=⟨_,rfl⟩;rw[hq1]at hwq0;have hm0:=zax q0 (by omega)
  have hwq1:IntKind.i64.wrap ((q1:Int)+1)=((q1+1:Nat):Int):=zad (by omega)
  obtain⟨q2,hq2⟩:∃q,q1+1=q:=⟨_,rfl⟩;rw[hq2]at hwq1;have hm1:=zax q1 (by omega)
  have hmk:zbn q0=(zd3 q0,zd3 q1):=by subst hq2 hq1;rfl
  simp[hsz,h0,hb,h1,h5,hlt,hwi,hwq0,hwq1,hm0,hm1,hyl]
  exact ih _ _ (by omega) ⟨i+1,yl.set i (zbn q0),rfl,by omega,by simp[hsz],by simp[h0],by simp[List.map_set,hmk],by simp;omega,by simp,by simp[hyl],λj hj=>by
   by_cases e:j=i
   ·subst e;simp[hlt',hq]
   ·rw[List.getElem?_set_ne (by omega)];exact hy j (by omega)⟩
 ·obtain rfl:i=es.length:=by omega
  have:yl=zbc zbn 2 es.length k:=zee (by rw[hyl,zbb]) (λj hj=>by rw[zbb]at hj;rw[hy j hj,zd4 _ _ _ _ _ hj])
  subst this;simp[hsz,h0,hb,h1,h5,hyl]
set_option maxHeartbeats 1000000 in
set_option maxRecDepth 4000 in
theorem zx6(n k:Nat)(hk:k<=100000000)(hn:n<=1048576):
 C Fn72 [.ro (FS (zbc zbn 2 n k)),.ro (N k)] []=some (.one (.ro (N (k+2*n))),[]):=by
 refine zae Tryz.func72 Cv72 rfl ?_;have hml:=zbb zbn 2 n k;have hge:=zfw zbn 2 n k;generalize zbc zbn 2 n k=ms at *;simp
 refine zai (λm e=> ∃i,m=n-i/\i<=n/\e.size=33/\e.get 0=.one (.ro (FS ms))/\e.get 1=.one (.ro (N (k+2*i)))/\e.get 5=.one (.ro (N i)))
  ?_ n _ ⟨0,rfl,Nat.zero_le _,by simp,by simp,by simp,by simp⟩
 rintro m e ⟨i,rfl,hi,hsz,h0,h1,h5⟩ ih;rcases Nat.lt_or_ge i n with hlt|hge2
 ·have hwi:IntKind.i64.wrap ((i:Int)+1)=((i+1:Nat):Int):=zad (by omega)
  have hlt':i<ms.length:=by omega
  have hgi:=hge i hlt';obtain⟨q0,hq⟩:∃q,k+2*i=q:=⟨_,rfl⟩;rw[hq]at h1 hgi;have hwq0:IntKind.i64.wrap ((q0:Int)+1)=((q0+1:Nat):Int):=zad (by omega)
  obtain⟨q1,hq1⟩:∃q,q0+1=q:=⟨_,rfl⟩;rw[hq1]at hwq0;have hm0:=zax q0 (by omega)
  have hwq1:IntKind.i64.wrap ((q1:Int)+1)=((q1+1:Nat):Int):=zad (by omega)
  obtain⟨q2,hq2⟩:∃q,q1+1=q:=⟨_,rfl⟩;rw[hq2]at hwq1;have hm1:=zax q1 (by omega)
  have hmk:zbn q0=(zd3 q0,zd3 q1):=by subst hq2 hq1;rfl
  rw[hmk]at hgi;simp[hsz,h0,h1,h5,hlt,hml,hgi,hwi,hwq0,hwq1,hm0,hm1];exact ih _ _ (by omega) ⟨i+1,rfl,by omega,by simp[hsz],by simp[h0],by simp;omega,by simp⟩
 ·obtain rfl:i=n:=by omega
  simp[hsz,h0,h1,h5,hml]
set_option maxHeartbeats 1000000 in
set_option maxRecDepth 4000 in
theorem zpb(es:List Fl)(k:Nat)(hk:k<=100000000)(hn:es.length<=1048576):
 C Fn58 [.view ⟨.cell 10000 0,[]⟩,.ro (N k)] [(10000,[.own (FS es)])]=some (.one (.ro (N (k+2*es.length))),[(10000,[.own (FS (zbc zbn 2 es.length k))])]):=by
 refine zae Tryz.func58 Cv58 rfl ?_;simp
 refine zai (λm e=> ∃i yl,m=es.length-i/\i<=es.length/\e.size=29/\e.get 0=.one (.view ⟨.cell 10000 0,[]⟩)/\e.box 10000=some [.own (FS yl)]/\e.get 1=.one (.ro (N (k+2*i)))/\e.get 5=.one (.ro (N i))/\
  yl.length=es.length/\ ∀j,j<i->yl[j]? =some (zbn (k+2*j)))
  ?_ es.length _ ⟨0,es,rfl,Nat.zero_le _,by simp,by simp,by simp,by simp,by simp,rfl,λj hj=>by omega⟩
 rintro m e ⟨i,yl,rfl,hi,hsz,h0,hb,h1,h5,hyl,hy⟩ ih;rcases Nat.lt_or_ge i es.length with hlt|hge
 ·have hwi:IntKind.i64.wrap ((i:Int)+1)=((i+1:Nat):Int):=zad (by omega)
  have hlt':i<yl.length:=by omega
  obtain⟨q0,hq⟩:∃q,k+2*i=q:=⟨_,rfl⟩;rw[hq]at h1;have hwq0:IntKind.i64.wrap ((q0:Int)+1)=((q0+1:Nat):Int):=zad (by omega)
  obtain⟨q1,hq1⟩:∃q,q0+1=q:=⟨_,rfl⟩;rw[hq1]at hwq0;have hm0:=zax q0 (by omega)
  have hwq1:IntKind.i64.wrap ((q1:Int)+1)=((q1+1:Nat):Int):=zad (by omega)
  obtain⟨q2,hq2⟩:∃q,q1+1=q:=⟨_,rfl⟩;rw[hq2]at hwq1;have hm1:=zax q1 (by omega)
  have hmk:zbn q0=(zd3 q0,zd3 q1):=by subst hq2 hq1;rfl
  simp[hsz,h0,hb,h1,h5,hlt,hwi,hwq0,hwq1,hm0,hm1,hyl]
  exact ih _ _ (by omega) ⟨i+1,yl.set i (zbn q0),rfl,by omega,by simp[hsz],by simp[h0],by simp[List.map_set,hmk],by simp;omega,by simp,by simp[hyl],λj hj=>by
   by_cases e:j=i
   ·subst e;simp[hlt',hq]
   ·rw[List.getElem?_set_ne (by omega)];exact hy j (by omega)⟩
 ·obtain rfl:i=es.length:=by omega
  have:yl=zbc zbn 2 es.length k:=zee (by rw[hyl,zbb]) (λj hj=>by rw[zbb]at hj;rw[hy j hj,zd4 _ _ _ _ _ hj])
  subst this;simp[hsz,h0,hb,h1,h5,hyl]
set_option maxHeartbeats 1000000 in
set_option maxRecDepth 4000 in
theorem zpc(n k:Nat)(hk:k<=100000000)(hn:n<=1048576):
 C Fn74 [.ro (FS (zbc zbn 2 n k)),.ro (N k)] []=some (.one (.ro (N (k+2*n))),[]):=by
 refine zae Tryz.func74 Cv74 rfl ?_;have hml:=zbb zbn 2 n k;have hge:=zfw zbn 2 n k;generalize zbc zbn 2 n k=ms at *;simp
 refine zai (λm e=> ∃i,m=n-i/\i<=n/\e.size=33/\e.get 0=.one (.ro (FS ms))/\e.get 1=.one (.ro (N (k+2*i)))/\e.get 5=.one (.ro (N i)))
  ?_ n _ ⟨0,rfl,Nat.zero_le _,by simp,by simp,by simp,by simp⟩
 rintro m e ⟨i,rfl,hi,hsz,h0,h1,h5⟩ ih;rcases Nat.lt_or_ge i n with hlt|hge2
 ·have hwi:IntKind.i64.wrap ((i:Int)+1)=((i+1:Nat):Int):=zad (by omega)
  have hlt':i<ms.length:=by omega
  have hgi:=hge i hlt';obtain⟨q0,hq⟩:∃q,k+2*i=q:=⟨_,rfl⟩;rw[hq]at h1 hgi;have hwq0:IntKind.i64.wrap ((q0:Int)+1)=((q0+1:Nat):Int):=zad (by omega)
  obtain⟨q1,hq1⟩:∃q,q0+1=q:=⟨_,rfl⟩;rw[hq1]at hwq0;have hm0:=zax q0 (by omega)
  have hwq1:IntKind.i64.wrap ((q1:Int)+1)=((q1+1:Nat):Int):=zad (by omega)
  obtain⟨q2,hq2⟩:∃q,q1+1=q:=⟨_,rfl⟩;rw[hq2]at hwq1;have hm1:=zax q1 (by omega)
  have hmk:zbn q0=(zd3 q0,zd3 q1):=by subst hq2 hq1;rfl
  rw[hmk]at hgi;simp[hsz,h0,h1,h5,hlt,hml,hgi,hwi,hwq0,hwq1,hm0,hm1];exact ih _ _ (by omega) ⟨i+1,rfl,by omega,by simp[hsz],by simp[h0],by simp;omega,by simp⟩
 ·obtain rfl:i=n:=by omega
  simp[hsz,h0,h1,h5,hml]
set_option maxHeartbeats 1000000 in
set_option maxRecDepth 4000 in
theorem zr3(es:List Fl)(k:Nat)(hk:k<=100000000)(hn:es.length<=1048576):
 C Fn59 [.view ⟨.cell 10000 0,[]⟩,.ro (N k)] [(10000,[.own (FS es)])]=some (.one (.ro (N (k+2*es.length))),[(10000,[.own (FS (zbc zbn 2 es.length k))])]):=by
 refine zae Tryz.func59 Cv59 rfl ?_;simp
 refine zai (λm e=> ∃i yl,m=es.length-i/\i<=es.length/\e.size=29/\e.get 0=.one (.view ⟨.cell 10000 0,[]⟩)/\e.box 10000=some [.own (FS yl)]/\e.get 1=.one (.ro (N (k+2*i)))/\e.get 5=.one (.ro (N i))/\
  yl.length=es.length/\ ∀j,j<i->yl[j]? =some (zbn (k+2*j)))
  ?_ es.length _ ⟨0,es,rfl,Nat.zero_le _,by simp,by simp,by simp,by simp,by simp,rfl,λj hj=>by omega⟩
 rintro m e ⟨i,yl,rfl,hi,hsz,h0,hb,h1,h5,hyl,hy⟩ ih;rcases Nat.lt_or_ge i es.length with hlt|hge
 ·have hwi:IntKind.i64.wrap ((i:Int)+1)=((i+1:Nat):Int):=zad (by omega)
  have hlt':i<yl.length:=by omega
  obtain⟨q0,hq⟩:∃q,k+2*i=q:=⟨_,rfl⟩;rw[hq]at h1;have hwq0:IntKind.i64.wrap ((q0:Int)+1)=((q0+1:Nat):Int):=zad (by omega)
  obtain⟨q1,hq1⟩:∃q,q0+1=q:=⟨_,rfl⟩;rw[hq1]at hwq0;have hm0:=zax q0 (by omega)
  have hwq1:IntKind.i64.wrap ((q1:Int)+1)=((q1+1:Nat):Int):=zad (by omega)
  obtain⟨q2,hq2⟩:∃q,q1+1=q:=⟨_,rfl⟩;rw[hq2]at hwq1;have hm1:=zax q1 (by omega)
  have hmk:zbn q0=(zd3 q0,zd3 q1):=by subst hq2 hq1;rfl
  simp[hsz,h0,hb,h1,h5,hlt,hwi,hwq0,hwq1,hm0,hm1,hyl]
  exact ih _ _ (by omega) ⟨i+1,yl.set i (zbn q0),rfl,by omega,by simp[hsz],by simp[h0],by simp[List.map_set,hmk],by simp;omega,by simp,by simp[hyl],λj hj=>by
   by_cases e:j=i
   ·subst e;simp[hlt',hq]
   ·rw[List.getElem?_set_ne (by omega)];exact hy j (by omega)⟩
 ·obtain rfl:i=es.length:=by omega
  have:yl=zbc zbn 2 es.length k:=zee (by rw[hyl,zbb]) (λj hj=>by rw[zbb]at hj;rw[hy j hj,zd4 _ _ _ _ _ hj])
  subst this;simp[hsz,h0,hb,h1,h5,hyl]
set_option maxHeartbeats 1000000 in
set_option maxRecDepth 4000 in
theorem zr4(n k:Nat)(hk:k<=100000000)(hn:n<=1048576):
 C Fn75 [.ro (FS (zbc zbn 2 n k)),.ro (N k)] []=some (.one (.ro (N (k+2*n))),[]):=by
 refine zae Tryz.func75 Cv75 rfl ?_;have hml:=zbb zbn 2 n k;have hge:=zfw zbn 2 n k;generalize zbc zbn 2 n k=ms at *;simp
 refine zai (λm e=> ∃i,m=n-i/\i<=n/\e.size=33/\e.get 0=.one (.ro (FS ms))/\e.get 1=.one (.ro (N (k+2*i)))/\e.get 5=.one (.ro (N i)))
  ?_ n _ ⟨0,rfl,Nat.zero_le _,by simp,by simp,by simp,by simp⟩
 rintro m e ⟨i,rfl,hi,hsz,h0,h1,h5⟩ ih;rcases Nat.lt_or_ge i n with hlt|hge2
 ·have hwi:IntKind.i64.wrap ((i:Int)+1)=((i+1:Nat):Int):=zad (by omega)
  have hlt':i<ms.length:=by omega
  have hgi:=hge i hlt';obtain⟨q0,hq⟩:∃q,k+2*i=q:=⟨_,rfl⟩;rw[hq]at h1 hgi;have hwq0:IntKind.i64.wrap ((q0:Int)+1)=((q0+1:Nat):Int):=zad (by omega)
  obtain⟨q1,hq1⟩:∃q,q0+1=q:=⟨_,rfl⟩;rw[hq1]at hwq0;have hm0:=zax q0 (by omega)
  have hwq1:IntKind.i64.wrap ((q1:Int)+1)=((q1+1:Nat):Int):=zad (by omega)
  obtain⟨q2,hq2⟩:∃q,q1+1=q:=⟨_,rfl⟩;rw[hq2]at hwq1;have hm1:=zax q1 (by omega)
  have hmk:zbn q0=(zd3 q0,zd3 q1):=by subst hq2 hq1;rfl
  rw[hmk]at hgi;simp[hsz,h0,h1,h5,hlt,hml,hgi,hwi,hwq0,hwq1,hm0,hm1];exact ih _ _ (by omega) ⟨i+1,rfl,by omega,by simp[hsz],by simp[h0],by simp;omega,by simp⟩
 ·obtain rfl:i=n:=by omega
  simp[hsz,h0,h1,h5,hml]
end Go.Qz
namespace Go.Qz
open Go.Proofs
theorem z10(e:Fl):C yhw [.ro (FD e),.ro (FD e)] []=some (.one (.ro (.bool true)),[]):=by
 refine zae Tryz.func126 yhy rfl ?_;simp
theorem zx7(es:List Fl)(hn:es.length<=1048576):C Fn52 [.ro (FS es),.ro (FS es)] []=some (.one (.ro (.bool true)),[]):=by
 refine zae Tryz.func52 Cv52 rfl ?_;simp
 refine zai (λm e=> ∃i,m=es.length-i/\i<=es.length/\e.size=27/\e.get 0=.one (.ro (FS es))/\e.get 1=.one (.ro (FS es))/\e.get 5=.one (.ro (N i)))
  ?_ es.length _ ⟨0,rfl,Nat.zero_le _,by simp,by simp,by simp,by simp⟩
 rintro m e ⟨i,rfl,hi,hsz,h0,h1,h5⟩ ih;rcases Nat.lt_or_ge i es.length with hlt|hge
 ·have hwi:IntKind.i64.wrap ((i:Int)+1)=((i+1:Nat):Int):=zad (by omega)
  have hq:=z10 es[i];simp[hsz,h0,h1,h5,hlt,hwi,hq];exact ih _ _ (by omega) ⟨i+1,rfl,by omega,by simp[hsz],by simp[h0],by simp[h1],by simp⟩
 ·obtain rfl:i=es.length:=by omega
  simp[hsz,h0,h5]
theorem zr5(e:Fl):C yh2 [.ro (FD e),.ro (FD e)] []=some (.one (.ro (.bool true)),[]):=by
 refine zae Tryz.func128 yh4 rfl ?_;simp
theorem zpd(es:List Fl)(hn:es.length<=1048576):C Fn54 [.ro (FS es),.ro (FS es)] []=some (.one (.ro (.bool true)),[]):=by
 refine zae Tryz.func54 Cv54 rfl ?_;simp
 refine zai (λm e=> ∃i,m=es.length-i/\i<=es.length/\e.size=27/\e.get 0=.one (.ro (FS es))/\e.get 1=.one (.ro (FS es))/\e.get 5=.one (.ro (N i)))
  ?_ es.length _ ⟨0,rfl,Nat.zero_le _,by simp,by simp,by simp,by simp⟩
 rintro m e ⟨i,rfl,hi,hsz,h0,h1,h5⟩ ih;rcases Nat.lt_or_ge i es.length with hlt|hge
 ·have hwi:IntKind.i64.wrap ((i:Int)+1)=((i+1:Nat):Int):=zad (by omega)
  have hq:=zr5 es[i];simp[hsz,h0,h1,h5,hlt,hwi,hq];exact ih _ _ (by omega) ⟨i+1,rfl,by omega,by simp[hsz],by simp[h0],by simp[h1],by simp⟩
 ·obtain rfl:i=es.length:=by omega
  simp[hsz,h0,h5]
theorem zvc(e:Fl):C yh5 [.ro (FD e),.ro (FD e)] []=some (.one (.ro (.bool true)),[]):=by
 refine zae Tryz.func129 yh7 rfl ?_;simp
theorem zr6(es:List Fl)(hn:es.length<=1048576):C Fn55 [.ro (FS es),.ro (FS es)] []=some (.one (.ro (.bool true)),[]):=by
 refine zae Tryz.func55 Cv55 rfl ?_;simp
 refine zai (λm e=> ∃i,m=es.length-i/\i<=es.length/\e.size=27/\e.get 0=.one (.ro (FS es))/\e.get 1=.one (.ro (FS es))/\e.get 5=.one (.ro (N i)))
  ?_ es.length _ ⟨0,rfl,Nat.zero_le _,by simp,by simp,by simp,by simp⟩
 rintro m e ⟨i,rfl,hi,hsz,h0,h1,h5⟩ ih;rcases Nat.lt_or_ge i es.length with hlt|hge
 ·have hwi:IntKind.i64.wrap ((i:Int)+1)=((i+1:Nat):Int):=zad (by omega)
  have hq:=zvc es[i];simp[hsz,h0,h1,h5,hlt,hwi,hq];exact ih _ _ (by omega) ⟨i+1,rfl,by omega,by simp[hsz],by simp[h0],by simp[h1],by simp⟩
 ·obtain rfl:i=es.length:=by omega
  simp[hsz,h0,h5]
theorem zx8(e:Ne):C yhz [.ro (NeD e),.ro (NeD e)] []=some (.one (.ro (.bool true)),[]):=by
 refine zae Tryz.func127 yh1 rfl ?_;simp
theorem zmj(es:List Ne)(hn:es.length<=1048576):C Fn53 [.ro (NeS es),.ro (NeS es)] []=some (.one (.ro (.bool true)),[]):=by
 refine zae Tryz.func53 Cv53 rfl ?_;simp
 refine zai (λm e=> ∃i,m=es.length-i/\i<=es.length/\e.size=27/\e.get 0=.one (.ro (NeS es))/\e.get 1=.one (.ro (NeS es))/\e.get 5=.one (.ro (N i)))
  ?_ es.length _ ⟨0,rfl,Nat.zero_le _,by simp,by simp,by simp,by simp⟩
 rintro m e ⟨i,rfl,hi,hsz,h0,h1,h5⟩ ih;rcases Nat.lt_or_ge i es.length with hlt|hge
 ·have hwi:IntKind.i64.wrap ((i:Int)+1)=((i+1:Nat):Int):=zad (by omega)
  have hq:=zx8 es[i];simp[hsz,h0,h1,h5,hlt,hwi,hq];exact ih _ _ (by omega) ⟨i+1,rfl,by omega,by simp[hsz],by simp[h0],by simp[h1],by simp⟩
 ·obtain rfl:i=es.length:=by omega
  simp[hsz,h0,h5]
theorem zpe(es:za2)(hn:es.length<=1048576):C Fn21 [.ro (SS es),.ro (SS es)] []=some (.one (.ro (.bool true)),[]):=by
 refine zae Tryz.func21 Cv21 rfl ?_;simp
 refine zai (λm e=> ∃i,m=es.length-i/\i<=es.length/\e.size=26/\e.get 0=.one (.ro (SS es))/\e.get 1=.one (.ro (SS es))/\e.get 5=.one (.ro (N i)))
  ?_ es.length _ ⟨0,rfl,Nat.zero_le _,by simp,by simp,by simp,by simp⟩
 rintro m e ⟨i,rfl,hi,hsz,h0,h1,h5⟩ ih;rcases Nat.lt_or_ge i es.length with hlt|hge
 ·have hwi:IntKind.i64.wrap ((i:Int)+1)=((i+1:Nat):Int):=zad (by omega)
  simp[hsz,h0,h1,h5,hlt,hwi];exact ih _ _ (by omega) ⟨i+1,rfl,by omega,by simp[hsz],by simp[h0],by simp[h1],by simp⟩
 ·obtain rfl:i=es.length:=by omega
  simp[hsz,h0,h5]
structure ym6(r:Rc):Prop where
 name:r.name.length<=140737488351232
 ver:r.ver.length<=140737488351232
 lets:r.lets.length<=140737488351232
 builds:r.builds.length<=140737488351232
 runs:r.runs.length<=140737488351232
 srcs:r.srcs.length<=140737488351232
 pcs:r.pcs.length<=140737488351232
 steps:r.steps.length<=140737488351232
 letz:∀e∈r.lets,e.1.length<=140737488351232/\e.2.length<=140737488351232
 bld:∀e∈r.builds,e.name.length<=140737488351232/\e.ver.length<=140737488351232
 run:∀e∈r.runs,e.name.length<=140737488351232/\e.ver.length<=140737488351232
 src:∀e∈r.srcs,e.1.length<=140737488351232/\e.2.length<=140737488351232
 pc:∀e∈r.pcs,e.1.length<=140737488351232/\e.2.length<=140737488351232
 step:∀x∈r.steps,x.length<=140737488351232
theorem zr7(r:Rc)(h:RcSz r):C Fn20 [.ro (RcD r),.ro (RcD r)] []=some (.one (.ro (.bool true)),[]):=by
 refine zae Tryz.func20 Cv20 rfl ?_;simp[zx7 r.lets h.lets,zmj r.builds h.builds,zmj r.runs h.runs,zpd r.srcs h.srcs,zr6 r.pcs h.pcs,zpe r.steps h.steps]
end Go.Qz
