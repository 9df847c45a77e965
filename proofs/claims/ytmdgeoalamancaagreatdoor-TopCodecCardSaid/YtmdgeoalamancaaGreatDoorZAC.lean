/- Runs of lengths, plain: packed and unpacked they are the same. Tokens, plain: what they stand for. Bits, plain: the lowest first. The machine's elements, plain: what stands in the bits, and what it makes. -/
import Derived.Test.YtmdgeoalamancaaGreatDoorZAB
set_option maxRecDepth 100000
set_option linter.unusedVariables false
set_option linter.unusedSimpArgs false
namespace Go.Proofs.YtmdgeoalamancaaGreatDoor
namespace Rn
abbrev R:=Nat × Nat
def ext (sym:Nat):Nat:=if sym=16 then 2 else if sym=17 then 3 else if sym=18 then 7 else 0
def lst (sym:Nat):Nat:=if sym=16∨sym=17 then 3 else if sym=18 then 11 else 1
def add (l:List Nat) (r:R):List Nat:=l++List.replicate (lst r.1+r.2) (if r.1≤15 then r.1 else if r.1=16 then l.getLastD 0 else 0)
def addL (l:List Nat) (rs:List R):List Nat:=rs.foldl add l
theorem addL_app (l:List Nat) (a b:List R):addL l (a++b)=addL (addL l a) b:=by unfold addL;rw[List.foldl_append]
def sym (n t:Nat):Nat:=if n≠0∧3≤t then 16 else if n=0∧11≤t then 18 else if n=0∧3≤t then 17 else n
def mst (n t:Nat):Nat:=if n≠0∧3≤t then 6 else if n=0∧11≤t then 138 else if n=0∧3≤t then 10 else 1
def prt (n t:Nat):Nat:=min t (mst n t)
theorem prt_pos {n t:Nat} (h:0<t):1≤prt n t∧prt n t≤t:=by
 unfold prt mst
 split
 ·omega
 ·split
  ·omega
  ·split<;>omega
def rest (n:Nat):Nat→Nat→List R
 |0,_=>[]
 |_+1,0=>[]
 |f+1,t+1=>(sym n (t+1),prt n (t+1)-lst (sym n (t+1)))::rest n f (t+1-prt n (t+1))
def rep (n t:Nat):List R:=if n=0 then rest n t t else (n,0)::rest n (t-1) (t-1)
def Ok (r:R):Prop:=r.1≤18∧r.2<2^ext r.1
theorem one_run {n t:Nat} (l:List Nat) (hn:n≤15) (ht:0<t) (hl:n≠0→l.getLastD 0=n):Ok (sym n t,prt n t-lst (sym n t))∧add l (sym n t,prt n t-lst (sym n t))=l++List.replicate (prt n t) n:=by
 unfold Ok add sym prt mst
 by_cases h1:n≠0∧3≤t
 ·simp only[if_pos h1]
  refine⟨⟨by omega,?_⟩,?_⟩
  ·show min t 6-3<2^2
   omega
  ·show l++List.replicate (3+(min t 6-3)) (l.getLastD 0)=_
   rw[hl h1.1,show 3+(min t 6-3)=min t 6 by omega]
 ·simp only[if_neg h1]
  by_cases h2:n=0∧11≤t
  ·simp only[if_pos h2]
   refine⟨⟨by omega,?_⟩,?_⟩
   ·show min t 138-11<2^7
    omega
   ·show l++List.replicate (11+(min t 138-11)) 0=_
    rw[show 11+(min t 138-11)=min t 138 by omega,h2.1]
  ·simp only[if_neg h2]
   by_cases h3:n=0∧3≤t
   ·simp only[if_pos h3]
    refine⟨⟨by omega,?_⟩,?_⟩
    ·show min t 10-3<2^3
     omega
    ·show l++List.replicate (3+(min t 10-3)) 0=_
     rw[show 3+(min t 10-3)=min t 10 by omega,h3.1]
   ·simp only[if_neg h3]
    have e:lst n=1:=by unfold lst;rw[if_neg (by omega),if_neg (by omega)]
    have e2:ext n=0:=by unfold ext;rw[if_neg (by omega),if_neg (by omega),if_neg (by omega)]
    rw[e,e2,if_pos hn]
    exact⟨⟨by omega,by show min t 1-1<2^0;omega⟩,by rw[show 1+(min t 1-1)=min t 1 by omega]⟩
theorem last_rep (l:List Nat) (n:Nat): ∀k,l.getLastD 0=n→(l++List.replicate k n).getLastD 0=n
 |0,h=>by simpa using h
 |k+1,_=>by rw[List.replicate_succ',←List.append_assoc];simp
theorem rest_ok (n:Nat) (hn:n≤15): ∀(f t:Nat) (l:List Nat),t≤f→(n≠0→l.getLastD 0=n)→(∀r∈rest n f t,Ok r)∧addL l (rest n f t)=l++List.replicate t n
 |0,t,l,h,_=>by
  have:t=0:=by omega
  subst this
  exact⟨fun r hr=>(by cases hr),by simp[rest,addL]⟩
 |f+1,0,l,_,_=>⟨fun r hr=>(by cases hr),by simp[rest,addL]⟩
 |f+1,t+1,l,h,hl=>by
  obtain⟨o1,o2⟩:=one_run (t:=t+1) l hn (by omega) hl
  obtain⟨p1,p2⟩:=prt_pos (n:=n) (t:=t+1) (by omega)
  obtain⟨i1,i2⟩:=rest_ok n hn f (t+1-prt n (t+1)) (l++List.replicate (prt n (t+1)) n) (by omega) (fun h0=>last_rep l n _ (hl h0))
  unfold rest
  refine⟨fun r hr=> ?_,?_⟩
  ·rcases List.mem_cons.1 hr with rfl|hr
   ·exact o1
   ·exact i1 r hr
  ·show addL (add l _) _=_
   rw[o2,i2,List.append_assoc,List.replicate_append_replicate]
   congr 2
   omega
theorem rep_ok (n t:Nat) (hn:n≤15) (ht:0<t) (l:List Nat):(∀r∈rep n t,Ok r)∧addL l (rep n t)=l++List.replicate t n:=by
 unfold rep
 by_cases h0:n=0
 ·rw[if_pos h0]
  exact rest_ok n hn t t l (Nat.le_refl _) (fun h=>absurd h0 h)
 ·rw[if_neg h0]
  have ho:Ok (n,0):=⟨by show n≤18;omega,by show 0<2^ext n;exact Nat.two_pow_pos _⟩
  have ha:add l (n,0)=l++[n]:=by
   unfold add
   have e:lst n=1:=by unfold lst;rw[if_neg (by omega),if_neg (by omega)]
   simp only[e,if_pos hn]
   rfl
  obtain⟨i1,i2⟩:=rest_ok n hn (t-1) (t-1) (l++[n]) (Nat.le_refl _) (fun _=>by simp)
  refine⟨fun r hr=> ?_,?_⟩
  ·rcases List.mem_cons.1 hr with rfl|hr
   ·exact ho
   ·exact i1 r hr
  ·show addL (add l (n,0)) _=_
   rw[ha,i2,List.append_assoc]
   congr 1
   rw[show t=(t-1)+1 by omega,List.replicate_succ]
   rfl
structure Pkd (l:List Nat) (at_:Nat) (rs:List R):Prop where
 ok: ∀r∈rs,Ok r
 is:addL [] rs=l.take at_
theorem Pkd.nil (l:List Nat):Pkd l 0 []:=⟨fun r hr=>(by cases hr),by rw[List.take_zero];rfl⟩
theorem Pkd.step {l:List Nat} {at_ k:Nat} {rs:List R} (h:Pkd l at_ rs) (hk:0<k) (hle:at_+k≤l.length) (n:Nat) (hn:n≤15) (hs: ∀i,i<k→l[at_+i]? =some n):Pkd l (at_+k) (rs++rep n k):=by
 obtain⟨r1,r2⟩:=rep_ok n k hn hk (l.take at_)
 refine⟨fun r hr=> ?_,?_⟩
 ·rcases List.mem_append.1 hr with hr|hr
  ·exact h.ok r hr
  ·exact r1 r hr
 ·rw[addL_app,h.is,r2]
  refine List.ext_getElem? fun i=> ?_
  rw[List.getElem?_append,List.length_take,Nat.min_eq_left (by omega)]
  by_cases h1:i<at_
  ·rw[if_pos h1,List.getElem?_take,if_pos h1,List.getElem?_take,if_pos (by omega)]
  ·rw[if_neg h1,List.getElem?_replicate,List.getElem?_take]
   by_cases h2:i-at_<k
   ·rw[if_pos h2,if_pos (by omega),←hs (i-at_) h2]
    congr 1
    omega
   ·rw[if_neg h2,if_neg (by omega)]
theorem add_len (l:List Nat) (r:R):(add l r).length=l.length+lst r.1+r.2:=by
 unfold add
 rw[List.length_append,List.length_replicate]
 omega
theorem lst_pos (s:Nat):1≤lst s:=by unfold lst;split;· omega
                                    split<;>omega
theorem addL_len (l:List Nat) (rs:List R):l.length≤(addL l rs).length:=by
 induction rs generalizing l with
 |nil=>exact Nat.le_refl _
 |cons r rs ih=>
  have h1:=ih (add l r)
  have h2:=add_len l r
  show l.length≤(addL (add l r) rs).length
  omega
end Rn
end Go.Proofs.YtmdgeoalamancaaGreatDoor
namespace Go.Proofs.YtmdgeoalamancaaGreatDoor
namespace Tk
structure T where
 c:Nat
 l:Nat
 d:Nat
def Ok (t:T):Prop:=(t.l=0∧t.d=0∧t.c<256)∨(t.c=0∧3≤t.l∧t.l≤258∧1≤t.d∧t.d≤32768)
def size (t:T):Nat:=if t.l=0 then 1 else t.l
def cp (k:List Nat) (d:Nat):Nat→List Nat
 |0=>k
 |n+1=>cp (k++[k.getD (k.length-d) 0]) d n
def exp (k:List Nat) (t:T):List Nat:=if t.l=0 then k++[t.c] else cp k t.d t.l
def expL (k:List Nat) (ts:List T):List Nat:=ts.foldl exp k
theorem expL_app (k:List Nat) (a b:List T):expL k (a++b)=expL (expL k a) b:=by unfold expL;rw[List.foldl_append]
theorem cp_len (d:Nat): ∀(n:Nat) (k:List Nat),(cp k d n).length=k.length+n
 |0,k=>rfl
 |n+1,k=>by unfold cp;rw[cp_len d n,List.length_append,List.length_singleton];omega
theorem cp_pre (d:Nat): ∀(n:Nat) (k:List Nat),∃e,cp k d n=k++e
 |0,k=>⟨[],by simp[cp]⟩
 |n+1,k=>by
  obtain⟨e,he⟩:=cp_pre d n (k++[k.getD (k.length-d) 0])
  exact⟨[k.getD (k.length-d) 0]++e,by unfold cp;rw[he,List.append_assoc]⟩
theorem exp_len (k:List Nat) (t:T):(exp k t).length=k.length+size t:=by
 unfold exp size
 split
 ·rw[List.length_append,List.length_singleton]
 ·rw[cp_len]
theorem cp_match (data:List Nat) {d:Nat} (hd:1≤d): ∀(n at_:Nat),d≤at_→at_+n≤data.length→(∀i,i<n→data.getD (at_-d+i) 0=data.getD (at_+i) 0)→cp (data.take at_) d n=data.take (at_+n)
 |0,_,_,_,_=>rfl
 |n+1,at_,h,hl,hm=>by
  unfold cp
  have e0:(data.take at_).length=at_:=by rw[List.length_take,Nat.min_eq_left (by omega)]
  have e1:(data.take at_).getD ((data.take at_).length-d) 0=data.getD at_ 0:=by
   rw[e0]
   have:=hm 0 (by omega)
   rw[Nat.add_zero,Nat.add_zero] at this
   rw[←this,List.getD_eq_getElem?_getD,List.getElem?_take,if_pos (by omega),List.getD_eq_getElem?_getD]
  have e2:data.take at_++[data.getD at_ 0]=data.take (at_+1):=by
   rw[List.take_add_one,List.getD_eq_getElem?_getD,List.getElem?_eq_getElem (by omega:at_<data.length)]
   rfl
  rw[e1,e2,cp_match data hd n (at_+1) (by omega) (by omega) (fun i hi=>by
   have:=hm (i+1) (by omega)
   rw[show at_+1-d+i=at_-d+(i+1) by omega,show at_+1+i=at_+(i+1) by omega]
   exact this)]
  congr 1
  omega
structure Std (data:List Nat) (from_ at_:Nat) (ts:List T):Prop where
 ok: ∀t∈ts,Ok t
 far:expL (data.take from_) ts=data.take at_
 le:from_≤at_
 lt:at_≤data.length
theorem Std.nil (data:List Nat) {from_:Nat} (h:from_≤data.length):Std data from_ from_ []:=⟨fun t ht=>(by cases ht),rfl,Nat.le_refl _,h⟩
theorem Std.lit {data:List Nat} {from_ at_:Nat} {ts:List T} (h:Std data from_ at_ ts) (hb: ∀x∈data,x<256) (hl:at_<data.length):Std data from_ (at_+1) (ts++[⟨data.getD at_ 0,0,0⟩]):=by
 refine⟨fun t ht=> ?_,?_,by have:=h.le;omega,hl⟩
 ·rcases List.mem_append.1 ht with ht|ht
  ·exact h.ok t ht
  ·rw[List.mem_singleton.1 ht]
   refine .inl ⟨rfl,rfl,?_⟩
   show data.getD at_ 0<256
   rw[List.getD_eq_getElem?_getD,List.getElem?_eq_getElem hl]
   exact hb _ (List.getElem_mem hl)
 ·rw[expL_app,h.far]
  show data.take at_++[data.getD at_ 0]=_
  rw[List.take_add_one,List.getD_eq_getElem?_getD,List.getElem?_eq_getElem hl]
  rfl
theorem Std.mat {data:List Nat} {from_ at_:Nat} {ts:List T} (h:Std data from_ at_ ts) {n d:Nat} (hn:3≤n) (hn2:n≤258) (hd:1≤d) (hd2:d≤32768) (hda:d≤at_) (hl:at_+n≤data.length) (hm: ∀i,i<n→data.getD (at_-d+i) 0=data.getD (at_+i) 0):Std data from_ (at_+n) (ts++[⟨0,n,d⟩]):=by
 refine⟨fun t ht=> ?_,?_,by have:=h.le;omega,hl⟩
 ·rcases List.mem_append.1 ht with ht|ht
  ·exact h.ok t ht
  ·rw[List.mem_singleton.1 ht]
   exact .inr ⟨rfl,hn,hn2,hd,hd2⟩
 ·rw[expL_app,h.far]
  show exp (data.take at_) ⟨0,n,d⟩=_
  unfold exp
  rw[if_neg (by show¬n=0;omega)]
  exact cp_match data hd n at_ hda hl hm
def Rch (k:Nat):List T→Prop
 | []=>True
 |t::ts=>(t.l=0∨t.d≤k)∧Rch (k+size t) ts
theorem Rch_app (a b:List T): ∀k,Rch k a→Rch (k+(a.map size).sum) b→Rch k (a++b):=by
 induction a with
 |nil=>intro k _ h;simpa using h
 |cons t a ih=>
  intro k h1 h2
  refine⟨h1.1,ih _ h1.2 ?_⟩
  rw[List.map_cons,List.sum_cons] at h2
  rwa [Nat.add_assoc]
end Tk
end Go.Proofs.YtmdgeoalamancaaGreatDoor
namespace Go.Proofs.YtmdgeoalamancaaGreatDoor
namespace Bt
open Can
def lsb (v:Nat):Nat→List Bool
 |0=>[]
 |n+1=>(v%2==1)::lsb (v/2) n
def val:List Bool→Nat
 | []=>0
 |b::l=>b2n b+2*val l
theorem lsb_len (v n:Nat):(lsb v n).length=n:=by
 induction n generalizing v with
 |zero=>rfl
 |succ n ih=>unfold lsb;rw[List.length_cons,ih]
theorem val_lt: ∀l:List Bool,val l<2^l.length
 | []=>by show 0<1;omega
 |b::l=>by
  have:=val_lt l
  unfold val
  rw[List.length_cons,Nat.pow_succ]
  cases b<;>simp[b2n]<;>omega
theorem val_lsb (v n:Nat):val (lsb v n)=v%2^n:=by
 induction n generalizing v with
 |zero=>show 0=v%1;omega
 |succ n ih=>
  unfold lsb val
  rw[ih,Nat.pow_succ,Nat.mul_comm (2^n) 2,Nat.mod_mul]
  unfold b2n
  by_cases h:v%2=1
  ·simp[h]
  ·have:v%2=0:=by omega
   simp[this]
theorem lsb_val: ∀l:List Bool,lsb (val l) l.length=l
 | []=>rfl
 |b::l=>by
  rw[List.length_cons]
  unfold lsb val
  have e1:(b2n b+2*val l)%2=b2n b:=by cases b<;>simp[b2n]<;>omega
  have e2:(b2n b+2*val l)/2=val l:=by cases b<;>simp[b2n]<;>omega
  rw[e1,e2,lsb_val l]
  cases b<;>rfl
theorem lsb_add (v m n:Nat):lsb v (m+n)=lsb v m++lsb (v/2^m) n:=by
 induction m generalizing v with
 |zero=>rw[Nat.zero_add,Nat.pow_zero,Nat.div_one];rfl
 |succ m ih=>
  rw[show m+1+n=(m+n)+1 by omega]
  show (v%2==1)::lsb (v/2) (m+n)=((v%2==1)::lsb (v/2) m)++lsb (v/2^(m+1)) n
  rw[ih,List.cons_append,Nat.div_div_eq_div_mul,Nat.pow_succ,Nat.mul_comm 2 (2^m)]
theorem lsb_mod (v:Nat) {m n:Nat} (h:n≤m):lsb (v%2^m) n=lsb v n:=by
 induction n generalizing v m with
 |zero=>rfl
 |succ n ih=>
  obtain⟨k,rfl⟩: ∃k,m=k+1:=⟨m-1,by omega⟩
  unfold lsb
  have e1:v%2^(k+1)%2=v%2:=by rw[Nat.pow_succ,Nat.mul_comm,Nat.mod_mul_right_mod]
  have e2:v%2^(k+1)/2=v/2%2^k:=by rw[Nat.pow_succ,Nat.mul_comm,Nat.mod_mul_right_div_self]
  rw[e1,e2,ih (v/2) (by omega)]
theorem val_app (a b:List Bool):val (a++b)=val a+2^a.length*val b:=by
 induction a with
 |nil=>show val b=0+1*val b;omega
 |cons x a ih=>
  show b2n x+2*val (a++b)=b2n x+2*val a+2^(a.length+1)*val b
  rw[ih,Nat.pow_succ,Nat.mul_comm (2^a.length) 2,Nat.mul_assoc]
  omega
theorem val_take (l:List Bool) (n:Nat):val (l.take n)=val l%2^n:=by
 by_cases h:n≤l.length
 ·have e:l=l.take n++l.drop n:=(List.take_append_drop n l).symm
  have hl:(l.take n).length=n:=by rw[List.length_take,Nat.min_eq_left h]
  have:=val_lt (l.take n)
  rw[hl] at this
  conv=>rhs;rw[e,val_app,hl]
  rw[Nat.add_mul_mod_self_left,Nat.mod_eq_of_lt this]
 ·rw[List.take_of_length_le (by omega),Nat.mod_eq_of_lt]
  have:=val_lt l
  have:=Nat.pow_le_pow_right (show 0<2 by omega) (show l.length≤n by omega)
  omega
theorem val_drop (l:List Bool) (n:Nat):val (l.drop n)=val l/2^n:=by
 by_cases h:n≤l.length
 ·have e:l=l.take n++l.drop n:=(List.take_append_drop n l).symm
  have hl:(l.take n).length=n:=by rw[List.length_take,Nat.min_eq_left h]
  have:=val_lt (l.take n)
  rw[hl] at this
  conv=>rhs;rw[e,val_app,hl]
  rw[Nat.add_mul_div_left _ _ (Nat.two_pow_pos n),Nat.div_eq_of_lt this,Nat.zero_add]
 ·rw[List.drop_of_length_le (by omega),Nat.div_eq_of_lt]
  ·rfl
  ·have:=val_lt l
   have:=Nat.pow_le_pow_right (show 0<2 by omega) (show l.length≤n by omega)
   omega
def byts (l:List Nat):List Bool:=l.flatMap (lsb · 8)
theorem byts_nil:byts []=[]:=rfl
theorem byts_cons (a:Nat) (l:List Nat):byts (a::l)=lsb a 8++byts l:=by unfold byts;simp
theorem byts_app (a b:List Nat):byts (a++b)=byts a++byts b:=by unfold byts;simp
theorem byts_one (a:Nat):byts [a]=lsb a 8:=by unfold byts;simp
theorem byts_len: ∀l:List Nat,(byts l).length=8*l.length
 | []=>rfl
 |a::l=>by rw[byts_cons,List.length_append,lsb_len,byts_len l,List.length_cons];omega
theorem byts_drop: ∀(l:List Nat) (k:Nat),(byts l).drop (8*k)=byts (l.drop k)
 |l,0=>by simp
 | [],k+1=>by simp[byts]
 |a::l,k+1=>by
  rw[byts_cons,List.drop_succ_cons,show 8*(k+1)=8+8*k by omega,←List.drop_drop,List.drop_append_of_le_length (by rw[lsb_len];omega),List.drop_of_length_le (l:=lsb a 8) (by rw[lsb_len];omega),List.nil_append]
  exact byts_drop l k
theorem byts_take: ∀(l:List Nat) (k:Nat),(byts l).take (8*k)=byts (l.take k)
 |l,0=>by simp[byts]
 | [],k+1=>by simp[byts]
 |a::l,k+1=>by
  rw[byts_cons,List.take_succ_cons,byts_cons,show 8*(k+1)=8+8*k by omega,List.take_append,lsb_len,List.take_of_length_le (l:=lsb a 8) (by rw[lsb_len];omega),show 8+8*k-8=8*k by omega,byts_take l k]
end Bt
end Go.Proofs.YtmdgeoalamancaaGreatDoor
namespace Go.Proofs.YtmdgeoalamancaaGreatDoor
namespace Mc
open Can Bt
def lB:List Nat:=[3,4,5,6,7,8,9,10,11,13,15,17,19,23,27,31,35,43,51,59,67,83,99,115,131,163,195,227,258]
def lX:List Nat:=[0,0,0,0,0,0,0,0,1,1,1,1,2,2,2,2,3,3,3,3,4,4,4,4,5,5,5,5,0]
def dB:List Nat:=[1,2,3,4,5,7,9,13,17,25,33,49,65,97,129,193,257,385,513,769,1025,1537,2049,3073,4097,6145,8193,12289,16385,24577]
def odr:List Nat:=[16,17,18,0,8,7,9,6,10,5,11,4,12,3,13,2,14,1,15]
def dX (s:Nat):Nat:=s/2-1
def plc (B:List Nat) (n:Nat):Nat:=(B.countP (· ≤n))-1
theorem plc_iff (n:Nat): ∀(B:List Nat),B.Pairwise (· ≤ ·)→ ∀j,j<B.length→(B.getD j 0≤n↔j<B.countP (· ≤n))
 | [],_,j,h=>by simp at h
 |b::B,hs,j,h=>by
  have h1:=List.pairwise_cons.1 hs
  rw[List.countP_cons]
  cases j with
  |zero=>
   show b≤n↔_
   by_cases hb:b≤n
   ·simp[hb]
   ·have h0:B.countP (· ≤n)=0:=by
     rw[List.countP_eq_zero]
     intro x hx
     have:=h1.1 x hx
     simp
     omega
    simp[hb,h0]
  |succ j=>
   show B.getD j 0≤n↔_
   have hj:j<B.length:=by simpa using h
   have ih:=plc_iff n B h1.2 j hj
   by_cases hb:b≤n
   ·simp only[hb,decide_true,if_true]
    omega
   ·have h0:B.countP (· ≤n)=0:=by
     rw[List.countP_eq_zero]
     intro x hx
     have:=h1.1 x hx
     simp
     omega
    have h2: ¬B.getD j 0≤n:=by omega
    simp only[hb,decide_false,h0]
    simp
    rw[List.getD_eq_getElem?_getD] at h2
    omega
theorem plc_ok (B:List Nat) (hs:B.Pairwise (· ≤ ·)) (n:Nat) (h0:0<B.length) (h:B.getD 0 0≤n):plc B n<B.length∧B.getD (plc B n) 0≤n∧(plc B n+1<B.length→n<B.getD (plc B n+1) 0):=by
 have h1:=(plc_iff n B hs 0 h0).1 h
 have h2:B.countP (· ≤n)≤B.length:=List.countP_le_length
 refine⟨by unfold plc;omega,?_,fun h3=> ?_⟩
 ·exact (plc_iff n B hs (plc B n) (by unfold plc;omega)).2 (by unfold plc;omega)
 ·rcases Nat.lt_or_ge n (B.getD (plc B n+1) 0) with h4|h4
  ·exact h4
  ·have:=(plc_iff n B hs (plc B n+1) h3).1 h4
   unfold plc at this
   omega
theorem lB_step: ∀i,i<28→lB.getD i 0+2^lX.getD i 0≥lB.getD (i+1) 0:=by decide
theorem dB_step: ∀i,i<29→dB.getD i 0+2^dX i≥dB.getD (i+1) 0:=by decide
theorem lB_asc:lB.Pairwise (· ≤ ·):=by decide
theorem dB_asc:dB.Pairwise (· ≤ ·):=by decide
theorem len_part (n:Nat) (hn:n<259) (h3:3≤n):plc lB n<29∧lB.getD (plc lB n) 0≤n∧n-lB.getD (plc lB n) 0<2^lX.getD (plc lB n) 0:=by
 obtain⟨h1,h2,h4⟩:=plc_ok lB lB_asc n (by decide) h3
 have h5:lB.length=29:=rfl
 refine⟨h1,h2,?_⟩
 by_cases h6:plc lB n<28
 ·have:=h4 (by omega)
  have:=lB_step _ h6
  omega
 ·have e:plc lB n=28:=by omega
  rw[e] at h2 ⊢
  have h7:lB.getD 28 0=258:=rfl
  rw[h7] at h2 ⊢
  show n-258<1
  omega
theorem dist_part (n:Nat) (h1:1≤n) (h2:n≤32768):plc dB n<30∧dB.getD (plc dB n) 0≤n∧n-dB.getD (plc dB n) 0<2^dX (plc dB n):=by
 obtain⟨h3,h4,h6⟩:=plc_ok dB dB_asc n (by decide) h1
 have h5:dB.length=30:=rfl
 refine⟨h3,h4,?_⟩
 by_cases h7:plc dB n<29
 ·have:=h6 (by omega)
  have:=dB_step _ h7
  omega
 ·have e:plc dB n=29:=by omega
  rw[e] at h4 ⊢
  have h8:dB.getD 29 0=24577:=rfl
  have h9:(2:Nat)^dX 29=8192:=rfl
  rw[h8] at h4 ⊢
  rw[h9]
  omega
def fixL:List Nat:=List.replicate 144 8++(List.replicate 112 9++(List.replicate 24 7++List.replicate 8 8))
def fixD:List Nat:=List.replicate 32 5
structure May (ls:List Nat) (k:Nat):Prop where
 le: ∀a∈ls,a≤15
 kr:krf ls 15=2^15∨(1≤k∧krf ls 15=2^14∧mny ls 1=1)∨(2≤k∧krf ls 15=0)
theorem May.krf {ls:List Nat} {k:Nat} (h:May ls k):krf ls 15≤2^15:=by
 rcases h.kr with h|⟨_,h,_⟩|⟨_,h⟩<;>rw[h]<;>omega
def Has (ls:List Nat) (s:Nat):Prop:=s<ls.length∧1≤len ls s
def cb (ls:List Nat) (s:Nat):List Bool:=msb (cod ls s) (len ls s)
theorem cb_len (ls:List Nat) (s:Nat):(cb ls s).length=len ls s:=msb_len _ _
inductive St
 |block
 |size
 |bytes (left:Nat)
 |counts
 |short (nl nd many told:Nat) (sh:List Nat)
 |run (nl nd:Nat) (tb ls:List Nat)
 |runX (nl nd:Nat) (tb ls:List Nat) (s:Nat)
 |sym (L D:List Nat)
 |lenX (L D:List Nat) (s:Nat)
 |dist (L D:List Nat) (n:Nat)
 |distX (L D:List Nat) (n s:Nat)
 |ended
structure Cfg where
 fin:Bool
 T:List Nat
 st:St
def gap (p:Nat):Nat:=(8-p%8)%8
inductive Stp:Nat→Cfg→List Bool→Cfg→Prop
 |stored (p:Nat) (f:Bool) (T:List Nat) (v:Nat) (pad:List Bool) (hv:v<2) (hp:pad.length=gap (p+3)):Stp p ⟨f,T,.block⟩ (lsb v 3++pad) ⟨v==1,T,.size⟩
 |fixed (p:Nat) (f:Bool) (T:List Nat) (v:Nat) (hv:v<2):Stp p ⟨f,T,.block⟩ (lsb (v+2) 3) ⟨v==1,T,.sym fixL fixD⟩
 |dyn (p:Nat) (f:Bool) (T:List Nat) (v:Nat) (hv:v<2):Stp p ⟨f,T,.block⟩ (lsb (v+4) 3) ⟨v==1,T,.counts⟩
 |size (p:Nat) (f:Bool) (T:List Nat) (n:Nat) (hn:n<65536):Stp p ⟨f,T,.size⟩ (lsb (n+(65535-n)*65536) 32) ⟨f,T,.bytes n⟩
 |byte (p:Nat) (f:Bool) (T:List Nat) (b left:Nat) (hb:b<256):Stp p ⟨f,T,.bytes (left+1)⟩ (lsb b 8) ⟨f,T++[b],.bytes left⟩
 |done0 (p:Nat) (T:List Nat):Stp p ⟨false,T,.bytes 0⟩ [] ⟨false,T,.block⟩
 |done1 (p:Nat) (T:List Nat) (pad:List Bool) (hp:pad.length=gap p):Stp p ⟨true,T,.bytes 0⟩ pad ⟨true,T,.ended⟩
 |counts (p:Nat) (f:Bool) (T:List Nat) (nl nd many:Nat) (h1:257≤nl∧nl≤286) (h2:1≤nd∧nd≤30) (h3:4≤many∧many≤19):Stp p ⟨f,T,.counts⟩ (lsb ((nl-257)+32*(nd-1)+1024*(many-4)) 14) ⟨f,T,.short nl nd many 0 (List.replicate 19 0)⟩
 |short (p:Nat) (f:Bool) (T:List Nat) (nl nd many told v:Nat) (sh:List Nat) (ht:told+1<many) (hv:v<8):Stp p ⟨f,T,.short nl nd many told sh⟩ (lsb v 3) ⟨f,T,.short nl nd many (told+1) (sh.set (odr.getD told 0) v)⟩
 |shortE (p:Nat) (f:Bool) (T:List Nat) (nl nd many told v:Nat) (sh:List Nat) (ht:told+1=many) (hv:v<8) (hm:May (sh.set (odr.getD told 0) v) 0):Stp p ⟨f,T,.short nl nd many told sh⟩ (lsb v 3) ⟨f,T,.run nl nd (sh.set (odr.getD told 0) v) []⟩
 |run (p:Nat) (f:Bool) (T:List Nat) (nl nd:Nat) (tb ls:List Nat) (s:Nat) (hs:Has tb s):Stp p ⟨f,T,.run nl nd tb ls⟩ (cb tb s) ⟨f,T,.runX nl nd tb ls s⟩
 |runX (p:Nat) (f:Bool) (T:List Nat) (nl nd:Nat) (tb ls:List Nat) (s e:Nat) (hs:s≤18) (he:e<2^Rn.ext s) (h16:s=16→ls≠[]) (hl:(Rn.add ls (s,e)).length<nl+nd):Stp p ⟨f,T,.runX nl nd tb ls s⟩ (lsb e (Rn.ext s)) ⟨f,T,.run nl nd tb (Rn.add ls (s,e))⟩
 |runE (p:Nat) (f:Bool) (T:List Nat) (nl nd:Nat) (tb ls:List Nat) (s e:Nat) (hs:s≤18) (he:e<2^Rn.ext s) (h16:s=16→ls≠[]) (hl:(Rn.add ls (s,e)).length=nl+nd) (hend:len (Rn.add ls (s,e)) 256≠0) (hL:May ((Rn.add ls (s,e)).take nl) 1) (hD:May ((Rn.add ls (s,e)).drop nl) 2):Stp p ⟨f,T,.runX nl nd tb ls s⟩ (lsb e (Rn.ext s)) ⟨f,T,.sym ((Rn.add ls (s,e)).take nl) ((Rn.add ls (s,e)).drop nl)⟩
 |lit (p:Nat) (f:Bool) (T L D:List Nat) (s:Nat) (hs:Has L s) (h:s<256):Stp p ⟨f,T,.sym L D⟩ (cb L s) ⟨f,T++[s],.sym L D⟩
 |eob0 (p:Nat) (T L D:List Nat) (hs:Has L 256):Stp p ⟨false,T,.sym L D⟩ (cb L 256) ⟨false,T,.block⟩
 |eob1 (p:Nat) (T L D:List Nat) (pad:List Bool) (hs:Has L 256) (hp:pad.length=gap (p+len L 256)):Stp p ⟨true,T,.sym L D⟩ (cb L 256++pad) ⟨true,T,.ended⟩
 |lenS (p:Nat) (f:Bool) (T L D:List Nat) (s:Nat) (hs:Has L s) (h1:257≤s) (h2:s<286):Stp p ⟨f,T,.sym L D⟩ (cb L s) ⟨f,T,.lenX L D s⟩
 |lenX (p:Nat) (f:Bool) (T L D:List Nat) (s e:Nat) (h1:257≤s) (h2:s<286) (he:e<2^lX.getD (s-257) 0):Stp p ⟨f,T,.lenX L D s⟩ (lsb e (lX.getD (s-257) 0)) ⟨f,T,.dist L D (lB.getD (s-257) 0+e)⟩
 |dist (p:Nat) (f:Bool) (T L D:List Nat) (n s:Nat) (hs:Has D s) (h:s<30):Stp p ⟨f,T,.dist L D n⟩ (cb D s) ⟨f,T,.distX L D n s⟩
 |distX (p:Nat) (f:Bool) (T L D:List Nat) (n s e:Nat) (h:s<30) (he:e<2^dX s) (hd:dB.getD s 0+e≤T.length):Stp p ⟨f,T,.distX L D n s⟩ (lsb e (dX s)) ⟨f,Tk.cp T (dB.getD s 0+e) n,.sym L D⟩
inductive Chn:Nat→Cfg→List Bool→Cfg→Prop
 |nil (p:Nat) (c:Cfg):Chn p c [] c
 |cons {p:Nat} {c c1 c2:Cfg} {a b:List Bool} (h:Stp p c a c1) (t:Chn (p+a.length) c1 b c2):Chn p c (a++b) c2
theorem Chn.one {p:Nat} {c c1:Cfg} {a:List Bool} (h:Stp p c a c1):Chn p c a c1:=by
 have:=Chn.cons h (.nil _ _)
 rwa [List.append_nil] at this
theorem Chn.app {p:Nat} {c c1 c2:Cfg} {a b:List Bool} (h:Chn p c a c1) (t:Chn (p+a.length) c1 b c2):Chn p c (a++b) c2:=by
 induction h with
 |nil p c=>simpa using t
 |cons h _ ih=>
  rw[List.append_assoc]
  refine .cons h (ih ?_)
  rwa [Nat.add_assoc,←List.length_append]
def tokB (L D:List Nat) (t:Tk.T):List Bool:=
 if t.l=0 then cb L t.c else
  cb L (257+plc lB t.l)++(lsb (t.l-lB.getD (plc lB t.l) 0) (lX.getD (plc lB t.l) 0)++(cb D (plc dB t.d)++lsb (t.d-dB.getD (plc dB t.d) 0) (dX (plc dB t.d))))
def toksB (L D:List Nat) (ts:List Tk.T):List Bool:=ts.flatMap (tokB L D)
def Fit (L D:List Nat) (t:Tk.T):Prop:=if t.l=0 then Has L t.c else Has L (257+plc lB t.l)∧Has D (plc dB t.d)
theorem tok_chain (L D:List Nat) {t:Tk.T} (ho:Tk.Ok t) (hf:Fit L D t) (f:Bool) (T:List Nat) (hr:t.l=0∨t.d≤T.length) (p:Nat):Chn p ⟨f,T,.sym L D⟩ (tokB L D t) ⟨f,Tk.exp T t,.sym L D⟩:=by
 unfold tokB Tk.exp
 unfold Fit at hf
 rcases ho with ⟨h1,_,h3⟩|⟨_,h3,h4,h5,h6⟩
 ·rw[if_pos h1] at hf
  rw[if_pos h1,if_pos h1]
  exact .one (.lit p f T L D t.c hf h3)
 ·have h0: ¬t.l=0:=by omega
  rw[if_neg h0] at hf
  rw[if_neg h0,if_neg h0]
  obtain⟨l1,l2,l3⟩:=len_part t.l (by omega) h3
  obtain⟨d1,d2,d3⟩:=dist_part t.d h5 h6
  have e1:257+plc lB t.l-257=plc lB t.l:=by omega
  have s2:=fun p=>Stp.lenX p f T L D (257+plc lB t.l) (t.l-lB.getD (plc lB t.l) 0) (by omega) (by omega) (by rw[e1];exact l3)
  rw[e1,show lB.getD (plc lB t.l) 0+(t.l-lB.getD (plc lB t.l) 0)=t.l by omega] at s2
  have e2:dB.getD (plc dB t.d) 0+(t.d-dB.getD (plc dB t.d) 0)=t.d:=by omega
  have s4:=fun p=>Stp.distX p f T L D t.l (plc dB t.d) (t.d-dB.getD (plc dB t.d) 0) d1 d3 (by rw[e2];omega)
  rw[e2] at s4
  refine .cons (.lenS p f T L D _ hf.1 (by omega) (by omega)) (.cons (s2 _) (.cons (.dist _ f T L D t.l _ hf.2 d1) (.one (s4 _))))
theorem toks_chain (L D:List Nat) (f:Bool): ∀(ts:List Tk.T) (T:List Nat) (p:Nat),(∀t∈ts,Tk.Ok t)→(∀t∈ts,Fit L D t)→Tk.Rch T.length ts→Chn p ⟨f,T,.sym L D⟩ (toksB L D ts) ⟨f,Tk.expL T ts,.sym L D⟩
 | [],T,p,_,_,_=> .nil _ _
 |t::ts,T,p,ho,hf,hr=>by
  have h1:=tok_chain L D (ho t (by simp)) (hf t (by simp)) f T hr.1 p
  have h2:=toks_chain L D f ts (Tk.exp T t) (p+(tokB L D t).length) (fun x hx=>ho x (by simp[hx])) (fun x hx=>hf x (by simp[hx])) (by rw[Tk.exp_len];exact hr.2)
  have:=h1.app h2
  unfold toksB
  rw[List.flatMap_cons]
  exact this
end Mc
end Go.Proofs.YtmdgeoalamancaaGreatDoor
