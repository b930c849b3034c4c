import Derived.Test.YtddfkpkieamlpaaGreatDoorQc0
namespace Go.Qz
theorem zpy(f:Env->Res):∀(n:Nat) (e:Env) (r:Ex×Env),iter f n e=some r->iter f (n+1) e=some r
 |0,e,r,h=>by cases h
 |n+1,e,r,h=>by
  rw[iter]at h ⊢
  cases hf:f e with
  |none=>rw[hf]at h;cases h
  |some x=>
   obtain⟨ex,e'⟩:=x;rw[hf]at h
   cases ex with
   |n=>exact zpy f n e' r h
   |x id=>exact h
   |r=>exact h
theorem zj8(f:Env->Res){n m:Nat}(hnm:n<=m){e:Env}{r:Ex×Env}(h:iter f n e=some r):iter f m e=some r:=by
 induction hnm with
 |refl=>exact h
 |step _ ih=>exact zpy f _ e r ih
noncomputable def zan:zio:=λf e=>open Classical in if h:∃r,∃n,iter f n e=some r then some h.choose else none
theorem zc6{f:Env->Res}{e:Env}{r:Ex×Env}{n:Nat}(h:iter f n e=some r):zan f e=some r:=by
 unfold zan;have hex:∃r,∃n,iter f n e=some r:=⟨r,n,h⟩;rw[dif_pos hex];obtain⟨m,hm⟩:=hex.choose_spec;have h1:=zj8 f (Nat.le_max_left n m) h;have h2:=zj8 f (Nat.le_max_right n m) hm;rw[h1]at h2;exact congrArg some (Option.some.inj h2).symm
theorem zcs{f:Env->Res}{e:Env}{r:Ex×Env}(h:zan f e=some r):∃n,iter f n e=some r:=by
 unfold zan at h;split at h
 ·rename_i hex;have:=hex.choose_spec;rwa [Option.some.inj h]at this
 ·cases h
end Go.Qz
