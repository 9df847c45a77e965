/- The checksum, plain: what is joined has the sum of both. Canonical codes, plain: a symbol's code is read as that symbol, and cut off it is short. Lengths of codes by merging packages, plain: they fill the codes. Lengths of codes, by symbols: what they take. -/
set_option maxRecDepth 100000
set_option linter.unusedVariables false
set_option linter.unusedSimpArgs false
namespace Go.Proofs.YtmdgeoalamancaaGreatDoor
namespace Crc
abbrev W:=BitVec 32
def poly:W:=0xedb88320#32
def Z (v:W):W:=if v.getLsbD 0 then (v>>>1)^^^poly else v>>>1
theorem shr_xor (a b:W) (n:Nat):(a^^^b)>>>n=(a>>>n)^^^(b>>>n):=by
 ext i hi
 simp
theorem Z_xor (a b:W):Z (a^^^b)=Z a^^^Z b:=by
 unfold Z
 rw[BitVec.getLsbD_xor,shr_xor]
 have key: ∀x y p:W,x^^^y=(x^^^p)^^^(y^^^p):=fun x y p=>by
  rw[show (x^^^p)^^^(y^^^p)=(p^^^p)^^^(x^^^y) by ac_rfl,BitVec.xor_self,BitVec.zero_xor]
 cases a.getLsbD 0<;>cases b.getLsbD 0<;>simp only[Bool.xor_false,Bool.false_xor,Bool.xor_self,Bool.xor_true,Bool.true_xor,Bool.not_false,Bool.not_true,if_true,if_false,Bool.false_eq_true]
 ·ac_rfl
 ·ac_rfl
 ·exact key _ _ _
theorem Z_zero:Z 0#32=0#32:=by decide
def Zn (n:Nat) (v:W):W:=n.repeat Z v
theorem Zn_zero (v:W):Zn 0 v=v:=rfl
theorem Zn_succ (n:Nat) (v:W):Zn (n+1) v=Z (Zn n v):=rfl
theorem Zn_add (m n:Nat) (v:W):Zn (m+n) v=Zn m (Zn n v):=by
 induction m with
 |zero=>rw[Nat.zero_add];rfl
 |succ m ih=>rw[Nat.succ_add,Zn_succ,Zn_succ,ih]
theorem Zn_comm (m n:Nat) (v:W):Zn m (Zn n v)=Zn n (Zn m v):=by rw[←Zn_add,←Zn_add,Nat.add_comm]
theorem Zn_xor (n:Nat) (a b:W):Zn n (a^^^b)=Zn n a^^^Zn n b:=by
 induction n with
 |zero=>rfl
 |succ n ih=>rw[Zn_succ,Zn_succ,Zn_succ,ih,Z_xor]
theorem Zn_z (n:Nat):Zn n 0#32=0#32:=by
 induction n with
 |zero=>rfl
 |succ n ih=>rw[Zn_succ,ih,Z_zero]
def tab (i:Nat):W:=Zn 4 (BitVec.ofNat 32 i)
theorem split4 (v:W):v=((v>>>4)<<<4)^^^(v&&& 15#32):=by
 ext i hi
 simp only[BitVec.getElem_xor,BitVec.getElem_shiftLeft,BitVec.getElem_and,BitVec.getLsbD_ushiftRight,BitVec.getElem_ushiftRight]
 by_cases h:i<4
 ·have:(15#32)[i]=true:=by
   have:i=0∨i=1∨i=2∨i=3:=by omega
   rcases this with rfl|rfl|rfl|rfl<;>simp
  simp[h,this]
 ·have:(15#32)[i]=false:=by
   have h2:(15#32).getLsbD i=false:=by
    rw[BitVec.getLsbD_ofNat]
    simp only[Bool.and_eq_false_imp]
    intro _
    exact Nat.testBit_lt_two_pow (Nat.lt_of_lt_of_le (by decide:15<2^4) (Nat.pow_le_pow_right (by decide) (by omega)))
   rw[←BitVec.getLsbD_eq_getElem];exact h2
  rw[this]
  simp[h]
  rw[←BitVec.getLsbD_eq_getElem,show 4+(i-4)=i by omega]
theorem Z_even (v:W) (h:v.getLsbD 0=false):Z v=v>>>1:=by unfold Z;rw[h];rfl
theorem Zn_high (v:W) (n:Nat) (h: ∀i,i<n→v.getLsbD i=false):Zn n v=v>>>n:=by
 induction n with
 |zero=>simp[Zn_zero]
 |succ n ih=>
  have h1:=ih fun i hi=>h i (by omega)
  rw[Zn_succ,h1,Z_even,←BitVec.shiftRight_add]
  rw[BitVec.getLsbD_ushiftRight]
  exact h n (by omega)
theorem tab_step (v:W):Zn 4 v=(v>>>4)^^^tab (v&&& 15#32).toNat:=by
 have e:=split4 v
 have h1:Zn 4 ((v>>>4)<<<4)=v>>>4:=by
  rw[Zn_high _ 4 (fun i hi=>by simp[BitVec.getLsbD_shiftLeft,hi])]
  ext i hi
  simp only[BitVec.getElem_ushiftRight,BitVec.getLsbD_shiftLeft,BitVec.getLsbD_ushiftRight]
  by_cases h:4+i<32
  ·simp[h]
  ·simp[h]
   have:v.getLsbD (4+i)=false:=BitVec.getLsbD_of_ge _ _ (by omega)
   simp[this]
 conv=>lhs;rw[e]
 rw[Zn_xor,h1]
 unfold tab
 congr 2
 simp
def upd (v:W) (c:W):W:=Zn 8 (v^^^c)
def updL (v:W) (l:List W):W:=l.foldl upd v
theorem updL_app (v:W) (l m:List W):updL v (l++m)=updL (updL v l) m:=by unfold updL;rw[List.foldl_append]
theorem updL_xor (l:List W) (v x:W):updL (v^^^x) l=updL v l^^^Zn (8*l.length) x:=by
 induction l generalizing v x with
 |nil=>simp[updL,Zn_zero]
 |cons c l ih=>
  show updL (upd (v^^^x) c) l=updL (upd v c) l^^^_
  have:upd (v^^^x) c=upd v c^^^Zn 8 x:=by
   unfold upd
   rw[show v^^^x^^^c=(v^^^c)^^^x by rw[BitVec.xor_assoc,BitVec.xor_comm x c,←BitVec.xor_assoc],Zn_xor]
  rw[this,ih,←Zn_add]
  congr 2
def sum (l:List W):W:= ~~~ updL (~~~ 0#32) l
theorem not_xor (a:W): ~~~ a=a^^^(~~~ 0#32):=by
 ext i hi
 rw[BitVec.getElem_not,BitVec.getElem_xor,BitVec.getElem_not,BitVec.getElem_zero]
 simp
theorem sum_more (l m:List W): ~~~ updL (~~~ sum l) m=sum (l++m):=by
 unfold sum
 rw[BitVec.not_not,←updL_app]
theorem sum_join (l m:List W):sum (l++m)=Zn (8*m.length) (sum l)^^^sum m:=by
 rw[←sum_more,not_xor (sum l),BitVec.xor_comm,updL_xor]
 have:updL (~~~ 0#32) m= ~~~ sum m:=by unfold sum;rw[BitVec.not_not]
 rw[this,not_xor (~~~ sum m^^^_),BitVec.xor_comm,←BitVec.xor_assoc,BitVec.xor_comm (~~~ 0#32),←not_xor,BitVec.not_not,BitVec.xor_comm]
def one:W:=0x80000000#32
def mulN:Nat→W→W→W→W
 |0,_,_,p=>p
 |k+1,a,b,p=>mulN k (a<<<1) (Z b) (if a.getLsbD 31 then p^^^b else p)
def mul (a b:W):W:=mulN 32 a b 0#32
def S:Nat→W→W→W
 |0,_,_=>0#32
 |k+1,a,b=>S k a b^^^(if a.getLsbD (31-k) then Zn k b else 0#32)
theorem mulN_S (a b:W): ∀(k j:Nat),j+k≤32→mulN k (a<<<j) (Zn j b) (S j a b)=S (j+k) a b
 |0,j,_=>rfl
 |k+1,j,h=>by
  unfold mulN
  have e1:(a<<<j)<<<1=a<<<(j+1):=by rw[BitVec.shiftLeft_add]
  have e2:Z (Zn j b)=Zn (j+1) b:=rfl
  have e3:(a<<<j).getLsbD 31=a.getLsbD (31-j):=by
   rw[BitVec.getLsbD_shiftLeft]
   simp
   omega
  have e4:(if (a<<<j).getLsbD 31 then S j a b^^^Zn j b else S j a b)=S (j+1) a b:=by
   rw[e3]
   show _=S j a b^^^(if a.getLsbD (31-j) then Zn j b else 0#32)
   split<;>simp
  rw[e1,e2,e4,mulN_S a b k (j+1) (by omega)]
  congr 1
  omega
theorem mul_S (a b:W):mul a b=S 32 a b:=by
 have:=mulN_S a b 32 0 (Nat.le_refl _)
 rw[BitVec.shiftLeft_zero,Zn_zero] at this
 exact this
theorem ite_xor (p q:Bool) (x:W):(if (p^^q) then x else 0#32)=(if p then x else 0#32)^^^(if q then x else 0#32):=by
 cases p<;>cases q<;>simp
theorem xor4 (p q r t:W):(p^^^q)^^^(r^^^t)=(p^^^r)^^^(q^^^t):=by ac_rfl
theorem S_left (a c b:W): ∀k,S k (a^^^c) b=S k a b^^^S k c b
 |0=>by simp[S]
 |k+1=>by
  show S k (a^^^c) b^^^_=(S k a b^^^_)^^^(S k c b^^^_)
  rw[S_left a c b k,BitVec.getLsbD_xor,ite_xor,xor4]
theorem S_right (a b c:W): ∀k,S k a (b^^^c)=S k a b^^^S k a c
 |0=>by simp[S]
 |k+1=>by
  show S k a (b^^^c)^^^_=(S k a b^^^_)^^^(S k a c^^^_)
  rw[S_right a b c k,Zn_xor,xor4]
  congr 1
  split<;>simp
theorem S_Zn (a b:W) (m:Nat): ∀k,S k a (Zn m b)=Zn m (S k a b)
 |0=>(Zn_z m).symm
 |k+1=>by
  show S k a (Zn m b)^^^_=Zn m (S k a b^^^_)
  rw[S_Zn a b m k,Zn_xor,Zn_comm]
  congr 1
  split
  ·rfl
  ·exact (Zn_z m).symm
theorem S_shr (a b:W): ∀k,k≤31→S (k+1) (a>>>1) b=Z (S k a b)
 |0,_=>by
  show (0#32^^^if (a>>>1).getLsbD 31 then Zn 0 b else 0#32)=Z 0#32
  have:(a>>>1).getLsbD 31=false:=by
   rw[BitVec.getLsbD_ushiftRight]
   exact BitVec.getLsbD_of_ge _ _ (by omega)
  rw[this,Z_zero]
  simp
 |k+1,h=>by
  show S (k+1) (a>>>1) b^^^(if (a>>>1).getLsbD (31-(k+1)) then Zn (k+1) b else 0#32)=Z (S k a b^^^if a.getLsbD (31-k) then Zn k b else 0#32)
  rw[S_shr a b k (by omega),Z_xor,BitVec.getLsbD_ushiftRight,show 1+(31-(k+1))=31-k by omega]
  congr 1
  split
  ·rfl
  ·exact Z_zero.symm
theorem one_shr: ∀m,m≤31→Zn m one=one>>>m:=fun m h=>Zn_high one m fun i hi=>by
 have:i<31:=by omega
 unfold one
 rw[show (0x80000000#32:W)=BitVec.twoPow 32 31 by decide,BitVec.getLsbD_twoPow]
 simp
 omega
theorem one_bit (n:Nat) (h:n≤31):Zn (31-n) one=BitVec.twoPow 32 n:=by
 rw[one_shr _ (by omega),show one=BitVec.twoPow 32 31 by decide]
 ext i hi
 rw[BitVec.getElem_ushiftRight,BitVec.getLsbD_twoPow,BitVec.getElem_twoPow]
 simp
 omega
theorem lin (f g:W→W) (hf: ∀a b,f (a^^^b)=f a^^^f b) (hg: ∀a b,g (a^^^b)=g a^^^g b) (h: ∀m,m≤31→f (Zn m one)=g (Zn m one)) (b:W):f b=g b:=by
 have f0: ∀k:W→W,(∀a b,k (a^^^b)=k a^^^k b)→k 0#32=0#32:=fun k hk=>by
  have:=hk 0#32 0#32
  rw[BitVec.xor_self] at this
  rw[this,BitVec.xor_self]
 have key: ∀n,n≤32→ ∀b:W,(∀i,n≤i→b.getLsbD i=false)→f b=g b:=by
  intro n
  induction n with
  |zero=>
   intro _ b hb
   have:b=0#32:=by
    apply BitVec.eq_of_getLsbD_eq
    intro i hi
    rw[hb i (Nat.zero_le _)]
    simp
   rw[this,f0 f hf,f0 g hg]
  |succ n ih=>
   intro hn b hb
   by_cases hbit:b.getLsbD n
   ·have e:b=(b^^^BitVec.twoPow 32 n)^^^BitVec.twoPow 32 n:=by rw[BitVec.xor_assoc,BitVec.xor_self,BitVec.xor_zero]
    rw[e,hf,hg,ih (by omega) (b^^^BitVec.twoPow 32 n) ?_]
    ·have:=h (31-n) (by omega)
     rw[one_bit n (by omega)] at this
     rw[this]
    ·intro i hi
     rw[BitVec.getLsbD_xor,BitVec.getLsbD_twoPow]
     by_cases e2:i=n
     ·subst e2
      rw[hbit]
      simp
      omega
     ·rw[hb i (by omega)]
      simp
      intro _
      omega
   ·refine ih (by omega) b fun i hi=> ?_
    by_cases e2:i=n
    ·subst e2;simpa using hbit
    ·exact hb i (by omega)
 exact key 32 (Nat.le_refl _) b fun i hi=>BitVec.getLsbD_of_ge _ _ hi
theorem S_poly (b:W):S 32 poly b=Zn 32 b:=
 lin (S 32 poly) (Zn 32) (fun a b=>S_right _ _ _ 32) (fun a b=>Zn_xor 32 a b) (fun m _=>by
  rw[S_Zn,Zn_comm,show S 32 poly one=Zn 32 one by decide+kernel]) b
theorem mul_Z (a b:W):mul (Z a) b=Z (mul a b):=by
 rw[mul_S,mul_S]
 have h32:S 32 a b=S 31 a b^^^(if a.getLsbD 0 then Zn 31 b else 0#32):=rfl
 rw[h32,Z_xor,←S_shr a b 31 (Nat.le_refl _)]
 unfold Z
 cases h:a.getLsbD 0
 ·simp
 ·simp only[if_true]
  rw[S_left,S_poly]
  rfl
theorem mul_Zn (a b:W): ∀m,mul (Zn m a) b=Zn m (mul a b)
 |0=>rfl
 |m+1=>by rw[Zn_succ,mul_Z,mul_Zn a b m,Zn_succ]
theorem mul_one (b:W):mul one b=b:=by
 rw[mul_S]
 have key: ∀k,0<k→k≤32→S k one b=b:=by
  intro k
  induction k with
  |zero=>intro h;omega
  |succ k ih=>
   intro _ hk
   by_cases h0:k=0
   ·subst h0
    show (0#32^^^if one.getLsbD 31 then Zn 0 b else 0#32)=b
    rw[show one.getLsbD 31=true by decide,Zn_zero]
    simp
   ·show S k one b^^^_=b
    have:one.getLsbD (31-k)=false:=by
     rw[show one=BitVec.twoPow 32 31 by decide,BitVec.getLsbD_twoPow]
     simp
     omega
    rw[ih (by omega) (by omega),this]
    simp
 exact key 32 (by decide) (Nat.le_refl _)
theorem mul_pow (m:Nat) (v:W):mul (Zn m one) v=Zn m v:=by rw[mul_Zn,mul_one]
end Crc
end Go.Proofs.YtmdgeoalamancaaGreatDoor
namespace Go.Proofs.YtmdgeoalamancaaGreatDoor
namespace Can
def mny (ls:List Nat) (n:Nat):Nat:=ls.count n
def fst (ls:List Nat):Nat→Nat
 |0=>0
 |1=>0
 |n+2=>2*(fst ls (n+1)+mny ls (n+1))
def idx (ls:List Nat):Nat→Nat
 |0=>0
 |1=>0
 |n+2=>idx ls (n+1)+mny ls (n+1)
def krf (ls:List Nat):Nat→Nat
 |0=>0
 |n+1=>krf ls n+mny ls (n+1)*2^(14-n)
theorem krf_mono (ls:List Nat) {m n:Nat} (h:m≤n):krf ls m≤krf ls n:=by
 induction n with
 |zero=>have:m=0:=by omega
        subst this;exact Nat.le_refl _
 |succ n ih=>
  by_cases e:m=n+1
  ·subst e;exact Nat.le_refl _
  ·have:=ih (by omega)
   show krf ls m≤krf ls n+mny ls (n+1)*2^(14-n)
   exact Nat.le_trans this (Nat.le_add_right _ _)
theorem fst_krf (ls:List Nat): ∀n,n≤14→fst ls (n+1)*2^(14-n)=krf ls n
 |0,_=>by show 0*_=0;omega
 |n+1,h=>by
  have ih:=fst_krf ls n (by omega)
  have e:2^(14-n)=2*2^(14-(n+1)):=by
   rw[show 14-n=(14-(n+1))+1 by omega,Nat.pow_succ,Nat.mul_comm]
  show 2*(fst ls (n+1)+mny ls (n+1))*2^(14-(n+1))=krf ls n+mny ls (n+1)*2^(14-n)
  rw[←ih,e,Nat.mul_comm 2 (fst ls (n+1)+mny ls (n+1)),Nat.mul_assoc,Nat.add_mul]
theorem fst_le (ls:List Nat) (hk:krf ls 15≤2^15) {n:Nat} (h1:1≤n) (h2:n≤15):fst ls n+mny ls n≤2^n:=by
 obtain⟨m,rfl⟩: ∃m,n=m+1:=⟨n-1,by omega⟩
 have e:=fst_krf ls m (by omega)
 have h3:=krf_mono ls (show m+1≤15 by omega)
 have h4:krf ls (m+1)=krf ls m+mny ls (m+1)*2^(14-m):=rfl
 have h5:(fst ls (m+1)+mny ls (m+1))*2^(14-m)≤2^(m+1)*2^(14-m):=by
  rw[Nat.add_mul,e,←h4,←Nat.pow_add,show m+1+(14-m)=15 by omega]
  omega
 exact Nat.le_of_mul_le_mul_right h5 (Nat.two_pow_pos _)
theorem fst_step (ls:List Nat) {n:Nat} (h:1≤n):fst ls (n+1)=2*(fst ls n+mny ls n):=by
 obtain⟨m,rfl⟩: ∃m,n=m+1:=⟨n-1,by omega⟩
 rfl
theorem idx_step (ls:List Nat) {n:Nat} (h:1≤n):idx ls (n+1)=idx ls n+mny ls n:=by
 obtain⟨m,rfl⟩: ∃m,n=m+1:=⟨n-1,by omega⟩
 rfl
theorem fst_far (ls:List Nat) {n:Nat} (h1:1≤n): ∀d,1≤d→(fst ls n+mny ls n)*2^d≤fst ls (n+d)
 |0,h=>by omega
 |1,_=>by rw[fst_step ls h1];omega
 |d+2,_=>by
  have ih:=fst_far ls h1 (d+1) (by omega)
  rw[show n+(d+2)=(n+(d+1))+1 by omega,fst_step ls (by omega),Nat.pow_succ,←Nat.mul_assoc]
  omega
def len (ls:List Nat) (s:Nat):Nat:=ls.getD s 0
def rnk (ls:List Nat) (s:Nat):Nat:=(ls.take s).count (len ls s)
def cod (ls:List Nat) (s:Nat):Nat:=fst ls (len ls s)+rnk ls s
theorem rnk_lt (ls:List Nat) {s:Nat} (h:s<ls.length):rnk ls s<mny ls (len ls s):=by
 unfold rnk mny
 have e:ls=ls.take s++ls[s]::ls.drop (s+1):=by
  rw[←List.drop_eq_getElem_cons h,List.take_append_drop]
 have hl:len ls s=ls[s]:=by unfold len;rw[List.getD_eq_getElem?_getD,List.getElem?_eq_getElem h];rfl
 rw[hl]
 generalize ls[s]=v at*
 conv=>rhs;rw[e]
 rw[List.count_append,List.count_cons]
 simp
def msb (c:Nat):Nat→List Bool
 |0=>[]
 |n+1=>(c/2^n%2==1)::msb c n
theorem msb_len (c:Nat): ∀n,(msb c n).length=n
 |0=>rfl
 |n+1=>by unfold msb;rw[List.length_cons,msb_len c n]
def b2n (b:Bool):Nat:=if b then 1 else 0
theorem div_bit (c m:Nat):2*(c/2^(m+1))+b2n (c/2^m%2==1)=c/2^m:=by
 rw[Nat.pow_succ,←Nat.div_div_eq_div_mul]
 unfold b2n
 by_cases h:c/2^m%2=1
 ·simp[h];omega
 ·simp[h];omega
theorem cod_lt (ls:List Nat) (hk:krf ls 15≤2^15) {s:Nat} (h:s<ls.length) (h1:1≤len ls s) (h15:len ls s≤15):cod ls s<2^len ls s:=by
 have:=fst_le ls hk h1 h15
 have:=rnk_lt ls h
 unfold cod
 omega
end Can
end Go.Proofs.YtmdgeoalamancaaGreatDoor
namespace Go.Proofs.YtmdgeoalamancaaGreatDoor
namespace Pk
def mg:List Nat→List Nat→List (Nat × Bool)
 | [],ps=>ps.map (·,true)
 |l::ls,[]=>(l::ls).map (·,false)
 |l::ls,p::ps=>if p<l then (p,true)::mg (l::ls) ps else (l,false)::mg ls (p::ps)
termination_by ls ps=>ls.length+ps.length
def prs:List Nat→List Nat
 |a::b::l=>(a+b)::prs l
 |_=>[]
def wts (A:List (Nat × Bool)):List Nat:=A.map (·.1)
def lev (L:List Nat):Nat→List (Nat × Bool)
 |0=>mg L []
 |k+1=>mg L (prs (wts (lev L k)))
def nl (A:List (Nat × Bool)):Nat:=A.countP (fun x=> !x.2)
def np (A:List (Nat × Bool)):Nat:=A.countP (fun x=>x.2)
theorem nl_np (A:List (Nat × Bool)):nl A+np A=A.length:=by
 unfold nl np
 induction A with
 |nil=>rfl
 |cons a A ih=>
  rw[List.countP_cons,List.countP_cons,List.length_cons]
  cases a.2<;>simp<;>omega
theorem mg_len: ∀ls ps:List Nat,(mg ls ps).length=ls.length+ps.length
 | [],ps=>by unfold mg;simp
 |l::ls,[]=>by unfold mg;simp
 |l::ls,p::ps=>by
  unfold mg
  split
  ·rw[List.length_cons,mg_len (l::ls) ps];simp;omega
  ·rw[List.length_cons,mg_len ls (p::ps)];simp;omega
termination_by ls ps=>ls.length+ps.length
theorem prs_len: ∀l:List Nat,(prs l).length=l.length/2
 | []=>rfl
 | [_]=>by unfold prs;simp
 |a::b::l=>by
  unfold prs
  rw[List.length_cons,prs_len l,List.length_cons,List.length_cons]
  omega
theorem prs_get: ∀(l:List Nat) (q:Nat),2*q+1<l.length→(prs l)[q]? =some (l.getD (2*q) 0+l.getD (2*q+1) 0)
 | [],q,h=>by simp at h
 | [_],q,h=>by simp at h
 |a::b::l,0,_=>by unfold prs;simp
 |a::b::l,q+1,h=>by
  unfold prs
  rw[List.getElem?_cons_succ,prs_get l q (by simp at h;omega)]
  rw[show 2*(q+1)=2*q+1+1 by omega]
  simp
abbrev Asc (l:List Nat):Prop:=l.Pairwise (· ≤ ·)
theorem mg_mem: ∀(ls ps:List Nat) (x:Nat × Bool),x∈mg ls ps→(x.2=false∧x.1∈ls)∨(x.2=true∧x.1∈ps)
 | [],ps,x,h=>by
  unfold mg at h
  obtain⟨y,hy,rfl⟩:=List.mem_map.1 h
  exact .inr ⟨rfl,hy⟩
 |l::ls,[],x,h=>by
  unfold mg at h
  obtain⟨y,hy,rfl⟩:=List.mem_map.1 h
  exact .inl ⟨rfl,hy⟩
 |l::ls,p::ps,x,h=>by
  unfold mg at h
  split at h
  ·rcases List.mem_cons.1 h with rfl|h
   ·exact .inr ⟨rfl,List.mem_cons_self⟩
   ·rcases mg_mem (l::ls) ps x h with ⟨h1,h2⟩|⟨h1,h2⟩
    ·exact .inl ⟨h1,h2⟩
    ·exact .inr ⟨h1,List.mem_cons_of_mem _ h2⟩
  ·rcases List.mem_cons.1 h with rfl|h
   ·exact .inl ⟨rfl,List.mem_cons_self⟩
   ·rcases mg_mem ls (p::ps) x h with ⟨h1,h2⟩|⟨h1,h2⟩
    ·exact .inl ⟨h1,List.mem_cons_of_mem _ h2⟩
    ·exact .inr ⟨h1,h2⟩
termination_by ls ps=>ls.length+ps.length
theorem mg_asc: ∀ls ps:List Nat,Asc ls→Asc ps→Asc (wts (mg ls ps))
 | [],ps,_,h=>by
  unfold mg wts
  rw[List.map_map]
  have:(fun x:Nat × Bool=>x.1) ∘ (fun x:Nat=>(x,true))=id:=rfl
  rw[this,List.map_id]
  exact h
 |l::ls,[],h,_=>by
  unfold mg wts
  rw[List.map_map]
  have:(fun x:Nat × Bool=>x.1) ∘ (fun x:Nat=>(x,false))=id:=rfl
  rw[this,List.map_id]
  exact h
 |l::ls,p::ps,h1,h2=>by
  unfold mg
  split
  ·rename_i hlt
   unfold wts
   rw[List.map_cons]
   refine List.pairwise_cons.2 ⟨fun y hy=> ?_,mg_asc (l::ls) ps h1 (List.pairwise_cons.1 h2).2⟩
   obtain⟨x,hx,rfl⟩:=List.mem_map.1 hy
   rcases mg_mem _ _ x hx with ⟨_,h⟩|⟨_,h⟩
   ·rcases List.mem_cons.1 h with e|h
    ·show p≤x.1;omega
    ·have:=(List.pairwise_cons.1 h1).1 _ h
     show p≤x.1;omega
   ·exact (List.pairwise_cons.1 h2).1 _ h
  ·rename_i hlt
   unfold wts
   rw[List.map_cons]
   refine List.pairwise_cons.2 ⟨fun y hy=> ?_,mg_asc ls (p::ps) (List.pairwise_cons.1 h1).2 h2⟩
   obtain⟨x,hx,rfl⟩:=List.mem_map.1 hy
   rcases mg_mem _ _ x hx with ⟨_,h⟩|⟨_,h⟩
   ·exact (List.pairwise_cons.1 h1).1 _ h
   ·rcases List.mem_cons.1 h with e|h
    ·show l≤x.1;omega
    ·have:=(List.pairwise_cons.1 h2).1 _ h
     show l≤x.1;omega
termination_by ls ps=>ls.length+ps.length
theorem prs_mem: ∀(l:List Nat) (x:Nat),x∈prs l→ ∃a b,a∈l∧b∈l∧x=a+b
 | [],x,h=>by simp[prs] at h
 | [_],x,h=>by simp[prs] at h
 |a::b::l,x,h=>by
  unfold prs at h
  rcases List.mem_cons.1 h with rfl|h
  ·exact⟨a,b,by simp,by simp,rfl⟩
  ·obtain⟨c,d,h1,h2,h3⟩:=prs_mem l x h
   exact⟨c,d,by simp[h1],by simp[h2],h3⟩
theorem prs_asc: ∀l:List Nat,Asc l→Asc (prs l)
 | [],_=>List.Pairwise.nil
 | [_],_=>List.Pairwise.nil
 |a::b::l,h=>by
  unfold prs
  have h1:=List.pairwise_cons.1 h
  have h2:=List.pairwise_cons.1 h1.2
  refine List.pairwise_cons.2 ⟨fun y hy=> ?_,prs_asc l h2.2⟩
  obtain⟨c,d,hc,hd,rfl⟩:=prs_mem l y hy
  have:=h2.1 c hc
  have:=h2.1 d hd
  have:=h1.1 b (by simp)
  omega
theorem lev_asc {L:List Nat} (hL:Asc L): ∀k,Asc (wts (lev L k))
 |0=>mg_asc L [] hL List.Pairwise.nil
 |k+1=>mg_asc L _ hL (prs_asc _ (lev_asc hL k))
theorem mg_first: ∀(ls ps:List Nat) (m:Nat),Asc ls→nl ((mg ls ps).take m)≤ls.length∧np ((mg ls ps).take m)≤ps.length∧(0<np ((mg ls ps).take m)→nl ((mg ls ps).take m)<ls.length→ps.getD (np ((mg ls ps).take m)-1) 0<ls.getD (nl ((mg ls ps).take m)) 0)∧(0<nl ((mg ls ps).take m)→ ∃i,i<m∧(mg ls ps)[i]? =some (ls.getD (nl ((mg ls ps).take m)-1) 0,false))
 |ls,ps,0,_=>by
  rw[List.take_zero]
  exact⟨Nat.zero_le _,Nat.zero_le _,fun h=>absurd h (by simp[np]),fun h=>absurd h (by simp[nl])⟩
 | [],ps,m+1,_=>by
  have h0:nl ((mg [] ps).take (m+1))=0:=by
   unfold nl
   rw[List.countP_eq_zero]
   intro x hx
   rcases mg_mem _ _ x (List.mem_of_mem_take hx) with ⟨_,h⟩|⟨h,_⟩
   ·cases h
   ·simp[h]
  have hn:np ((mg [] ps).take (m+1))≤ps.length:=by
   have h1:=nl_np ((mg [] ps).take (m+1))
   have h2:=mg_len [] ps
   rw[List.length_take] at h1
   simp at h2
   omega
  exact⟨by omega,hn,fun _ h=>by rw[h0] at h;simp at h,fun h=>by omega⟩
 |l::ls,[],m+1,_=>by
  have h0:np ((mg (l::ls) []).take (m+1))=0:=by
   unfold np
   rw[List.countP_eq_zero]
   intro x hx
   rcases mg_mem _ _ x (List.mem_of_mem_take hx) with ⟨h,_⟩|⟨_,h⟩
   ·simp[h]
   ·cases h
  have h1:=nl_np ((mg (l::ls) []).take (m+1))
  have h2:=mg_len (l::ls) []
  rw[List.length_take] at h1
  simp only[List.length_nil,Nat.add_zero] at h2
  refine⟨by omega,by omega,fun h=>by omega,fun h=>⟨nl ((mg (l::ls) []).take (m+1))-1,by omega,?_⟩⟩
  generalize hq:nl ((mg (l::ls) []).take (m+1))-1=q
  have hq2:q<(l::ls).length:=by omega
  unfold mg
  rw[List.getElem?_map,List.getElem?_eq_getElem hq2,List.getD_eq_getElem?_getD,List.getElem?_eq_getElem hq2]
  rfl
 |l::ls,p::ps,m+1,hL=>by
  have e:mg (l::ls) (p::ps)=if p<l then (p,true)::mg (l::ls) ps else (l,false)::mg ls (p::ps):=by conv=>lhs;unfold mg
  rw[e]
  split
  ·rename_i hlt
   obtain⟨i1,i2,i3,i4⟩:=mg_first (l::ls) ps m hL
   rw[List.take_succ_cons]
   have e1:nl ((p,true)::(mg (l::ls) ps).take m)=nl ((mg (l::ls) ps).take m):=by unfold nl;rw[List.countP_cons];simp
   have e2:np ((p,true)::(mg (l::ls) ps).take m)=np ((mg (l::ls) ps).take m)+1:=by unfold np;rw[List.countP_cons];simp
   rw[e1,e2]
   refine⟨i1,by simp;omega,fun _ h=> ?_,fun h=> ?_⟩
   ·by_cases h0:np ((mg (l::ls) ps).take m)=0
    ·rw[h0]
     show p<_
     refine Nat.lt_of_lt_of_le hlt ?_
     cases hj:nl ((mg (l::ls) ps).take m) with
     |zero=>exact Nat.le_refl _
     |succ j=>
      rw[hj] at h
      have hj2:j<ls.length:=by simpa using h
      show l≤ls.getD j 0
      rw[List.getD_eq_getElem?_getD,List.getElem?_eq_getElem hj2]
      exact (List.pairwise_cons.1 hL).1 _ (List.getElem_mem hj2)
    ·have:=i3 (by omega) h
     rw[show np ((mg (l::ls) ps).take m)+1-1=(np ((mg (l::ls) ps).take m)-1)+1 by omega]
     exact this
   ·obtain⟨i,hi,h2⟩:=i4 h
    exact⟨i+1,by omega,h2⟩
  ·rename_i hlt
   obtain⟨i1,i2,i3,i4⟩:=mg_first ls (p::ps) m (List.pairwise_cons.1 hL).2
   rw[List.take_succ_cons]
   have e1:nl ((l,false)::(mg ls (p::ps)).take m)=nl ((mg ls (p::ps)).take m)+1:=by unfold nl;rw[List.countP_cons];simp
   have e2:np ((l,false)::(mg ls (p::ps)).take m)=np ((mg ls (p::ps)).take m):=by unfold np;rw[List.countP_cons];simp
   rw[e1,e2]
   refine⟨by simp;omega,i2,fun h0 h=> ?_,fun _=> ?_⟩
   ·exact i3 h0 (by simpa using h)
   ·by_cases h0:nl ((mg ls (p::ps)).take m)=0
    ·exact⟨0,by omega,by rw[h0];rfl⟩
    ·obtain⟨i,hi,h2⟩:=i4 (by omega)
     refine⟨i+1,by omega,?_⟩
     rw[List.getElem?_cons_succ,h2]
     congr 2
     rw[show nl ((mg ls (p::ps)).take m)+1-1=(nl ((mg ls (p::ps)).take m)-1)+1 by omega]
     rfl
termination_by ls ps m=>ls.length+ps.length
theorem lev_len (L:List Nat): ∀k,(lev L (k+1)).length=L.length+(lev L k).length/2:=fun k=>by
 show (mg L (prs (wts (lev L k)))).length=_
 rw[mg_len,prs_len]
 unfold wts
 rw[List.length_map]
theorem lev_len0 (L:List Nat):(lev L 0).length=L.length:=by
 show (mg L []).length=_
 rw[mg_len]
 rfl
theorem lev_enough (L:List Nat): ∀k,2*L.length*2^k≤(lev L k).length*2^k+L.length+(2^k-1)
 |0=>by rw[lev_len0];omega
 |k+1=>by
  have ih:=lev_enough L k
  rw[lev_len,Nat.pow_succ]
  have h2:(lev L k).length≤2*((lev L k).length/2)+1:=by omega
  have h3:(lev L k).length*2^k≤(2*((lev L k).length/2)+1)*2^k:=Nat.mul_le_mul_right _ h2
  have hp:=Nat.two_pow_pos k
  generalize (lev L k).length/2=q at*
  generalize hP:2^k=P at*
  rw[Nat.add_mul,Nat.one_mul] at h3
  have e1:2*L.length*(P*2)=2*L.length*P+2*L.length*P:=by rw[Nat.mul_comm P 2,Nat.mul_left_comm];omega
  have e2:(L.length+q)*(P*2)=2*L.length*P+2*q*P:=by
   rw[Nat.add_mul,Nat.mul_comm P 2,←Nat.mul_assoc,←Nat.mul_assoc,Nat.mul_comm L.length 2,Nat.mul_comm q 2]
  rw[e1,e2]
  omega
theorem lev_top (L:List Nat) (T:Nat) (h:L.length≤2^(T+1)):2*L.length-2≤(lev L T).length:=by
 have h1:=lev_enough L T
 have hp:=Nat.two_pow_pos T
 rw[Nat.pow_succ] at h
 generalize 2^T=P at*
 generalize (lev L T).length=M at*
 generalize L.length=n at*
 rcases Nat.lt_or_ge M (2*n-2) with hlt|hge
 ·exfalso
  have h2:(M+3)*P≤2*n*P:=Nat.mul_le_mul_right _ (by omega)
  rw[Nat.add_mul] at h2
  omega
 ·exact hge
def nd (L:List Nat) (T:Nat):Nat→Nat
 |0=>2*L.length-2
 |t+1=>2*np ((lev L (T-t)).take (nd L T t))
def jv (L:List Nat) (T t:Nat):Nat:=nl ((lev L (T-t)).take (nd L T t))
theorem nd_le (L:List Nat) (T:Nat) (hL:Asc L) (h:L.length≤2^(T+1)): ∀t,t≤T→nd L T t≤(lev L (T-t)).length
 |0,_=>lev_top L T h
 |t+1,ht=>by
  show 2*np ((lev L (T-t)).take (nd L T t))≤_
  obtain⟨k,hk⟩: ∃k,T-t=k+1:=⟨T-t-1,by omega⟩
  rw[hk,show T-(t+1)=k by omega]
  have:=(mg_first L (prs (wts (lev L k))) (nd L T t) hL).2.1
  rw[prs_len] at this
  unfold wts at this
  rw[List.length_map] at this
  show 2*np ((mg L (prs (wts (lev L k)))).take (nd L T t))≤_
  unfold wts
  omega
theorem nd_split (L:List Nat) (T:Nat) (hL:Asc L) (h:L.length≤2^(T+1)) {t:Nat} (ht:t≤T):nd L T t=jv L T t+np ((lev L (T-t)).take (nd L T t)):=by
 have h1:=nl_np ((lev L (T-t)).take (nd L T t))
 rw[List.length_take,Nat.min_eq_left (nd_le L T hL h t ht)] at h1
 unfold jv
 omega
theorem nd_last (L:List Nat) (T:Nat):np ((lev L (T-T)).take (nd L T T))=0:=by
 rw[Nat.sub_self]
 unfold np
 rw[List.countP_eq_zero]
 intro x hx
 rcases mg_mem L [] x (List.mem_of_mem_take hx) with ⟨h,_⟩|⟨_,h⟩
 ·simp[h]
 ·cases h
theorem jv_le (L:List Nat) (T:Nat) (hL:Asc L): ∀t,jv L T t≤L.length:=fun t=>by
 unfold jv
 cases hk:T-t with
 |zero=>exact (mg_first L [] _ hL).1
 |succ k=>exact (mg_first L (prs (wts (lev L k))) _ hL).1
theorem asc_get {l:List Nat} (h:Asc l) {i j:Nat} (hij:i≤j) (hj:j<l.length):l.getD i 0≤l.getD j 0:=by
 rw[List.getD_eq_getElem?_getD,List.getD_eq_getElem?_getD,List.getElem?_eq_getElem (by omega:i<l.length),List.getElem?_eq_getElem hj]
 show l[i]≤l[j]
 by_cases e:i=j
 ·subst e;exact Nat.le_refl _
 ·exact List.pairwise_iff_getElem.1 h i j (by omega) hj (by omega)
theorem jv_anti (L:List Nat) (T:Nat) (hL:Asc L) (h:L.length≤2^(T+1)) {t:Nat} (ht:t<T):jv L T (t+1)≤jv L T t:=by
 obtain⟨k,hk⟩: ∃k,T-t=k+1:=⟨T-t-1,by omega⟩
 have hk2:T-(t+1)=k:=by omega
 have hjl:=jv_le L T hL (t+1)
 rcases Nat.lt_or_ge (jv L T t) (jv L T (t+1)) with hlt|hge
 ·exfalso
  have hnd:=nd_le L T hL h (t+1) (by omega)
  have e1:nd L T (t+1)=2*np ((lev L (k+1)).take (nd L T t)):=by show 2*np ((lev L (T-t)).take (nd L T t))=_;rw[hk]
  obtain⟨_,_,i3,_⟩:=mg_first L (prs (wts (lev L k))) (nd L T t) hL
  have hj:jv L T t=nl ((mg L (prs (wts (lev L k)))).take (nd L T t)):=by unfold jv;rw[hk];rfl
  have hp:np ((lev L (k+1)).take (nd L T t))=np ((mg L (prs (wts (lev L k)))).take (nd L T t)):=rfl
  rw[←hj,←hp] at i3
  rw[hk2] at hnd
  have hfirst: ∃i,i<nd L T (t+1)∧(lev L k)[i]? =some (L.getD (jv L T (t+1)-1) 0,false):=by
   have e2:jv L T (t+1)=nl ((lev L k).take (nd L T (t+1))):=by unfold jv;rw[hk2]
   rw[e2]
   rw[e2] at hlt
   cases k with
   |zero=>exact (mg_first L [] _ hL).2.2.2 (by show 0<nl ((lev L 0).take _);omega)
   |succ k=>exact (mg_first L (prs (wts (lev L k))) _ hL).2.2.2 (by show 0<nl ((lev L (k+1)).take _);omega)
  obtain⟨i,hi,hi2⟩:=hfirst
  generalize np ((lev L (k+1)).take (nd L T t))=p at*
  rw[e1] at hi hnd
  have hw:(wts (lev L k)).length=(lev L k).length:=by unfold wts;rw[List.length_map]
  have h1:=i3 (by omega) (by omega)
  have h2:=prs_get (wts (lev L k)) (p-1) (by rw[hw];omega)
  rw[List.getD_eq_getElem?_getD,h2] at h1
  have h3:(wts (lev L k)).getD i 0=L.getD (jv L T (t+1)-1) 0:=by
   unfold wts
   rw[List.getD_eq_getElem?_getD,List.getElem?_map,hi2]
   rfl
  have h4:=asc_get (lev_asc hL k) (i:=i) (j:=2*(p-1)+1) (by omega) (by rw[hw];omega)
  have h5:=asc_get hL (i:=jv L T t) (j:=jv L T (t+1)-1) (by omega) (by omega)
  rw[h3] at h4
  simp only[Option.getD_some] at h1
  omega
 ·exact hge
def sumN (f:Nat→Nat):Nat→Nat
 |0=>0
 |n+1=>sumN f n+f n
theorem sumN_add (f g:Nat→Nat): ∀n,sumN (fun i=>f i+g i) n=sumN f n+sumN g n
 |0=>rfl
 |n+1=>by simp only[sumN];rw[sumN_add f g n];omega
theorem sumN_zero: ∀n,sumN (fun _=>0) n=0
 |0=>rfl
 |n+1=>by simp only[sumN];rw[sumN_zero n]
theorem sumN_const (c:Nat): ∀n,sumN (fun _=>c) n=n*c
 |0=>by show 0=_;omega
 |n+1=>by simp only[sumN];rw[sumN_const c n,Nat.succ_mul]
theorem sumN_congr {f g:Nat→Nat}: ∀{n},(∀i,i<n→f i=g i)→sumN f n=sumN g n
 |0,_=>rfl
 |n+1,h=>by show sumN f n+f n=sumN g n+g n;rw[sumN_congr fun i hi=>h i (by omega),h n (by omega)]
theorem sumN_lt (c:Nat): ∀{n j},j≤n→sumN (fun i=>if i<j then c else 0) n=j*c
 |0,j,h=>by have:j=0:=by omega
            subst this;show 0=_;omega
 |n+1,j,h=>by
  simp only[sumN]
  by_cases e:j=n+1
  ·subst e
   rw[if_pos (by omega),sumN_congr (g:=fun _=>c) fun i hi=>if_pos (by omega),sumN_const,Nat.succ_mul]
  ·rw[sumN_lt c (by omega),if_neg (by omega),Nat.add_zero]
def dep (L:List Nat) (T i:Nat):Nat→Nat
 |0=>0
 |t+1=>dep L T i t+(if i<jv L T t then 1 else 0)
theorem dep_le (L:List Nat) (T i:Nat): ∀t,dep L T i t≤t
 |0=>Nat.le_refl _
 |t+1=>by have:=dep_le L T i t;unfold dep;split<;>omega
theorem dep_full (L:List Nat) (T i:Nat) (hL:Asc L) (h:L.length≤2^(T+1)): ∀t,t≤T→i<jv L T t→dep L T i t=t
 |0,_,_=>rfl
 |t+1,ht,hi=>by
  have h1:=jv_anti L T hL h (t:=t) (by omega)
  have h2:=dep_full L T i hL h t (by omega) (by omega)
  unfold dep
  rw[h2,if_pos (by omega)]
theorem dep_sum (L:List Nat) (T i:Nat) (hL:Asc L) (h:L.length≤2^(T+1)): ∀t,t≤T+1→sumN (fun s=>if i<jv L T s then 2^(T-s) else 0) t+2^(T+1-dep L T i t)=2^(T+1)
 |0,_=>by show 0+2^(T+1-0)=_;rw[Nat.zero_add,Nat.sub_zero]
 |t+1,ht=>by
  have ih:=dep_sum L T i hL h t (by omega)
  simp only[sumN,dep]
  by_cases hi:i<jv L T t
  ·have hd:=dep_full L T i hL h t (by omega) hi
   rw[if_pos hi,if_pos hi,hd,show T+1-(t+1)=T-t by omega]
   rw[hd,show T+1-t=(T-t)+1 by omega,Nat.pow_succ] at ih
   omega
  ·rw[if_neg hi,if_neg hi,Nat.add_zero,Nat.add_zero]
   exact ih
theorem need_sum (L:List Nat) (T:Nat) (hL:Asc L) (h:L.length≤2^(T+1)): ∀t,t≤T→sumN (fun s=>jv L T s*2^(T-s)) (t+1)+np ((lev L (T-t)).take (nd L T t))*2^(T-t)=(2*L.length-2)*2^T
 |0,h0=>by
  have:=nd_split L T hL h h0
  show 0+jv L T 0*2^(T-0)+_=_
  rw[Nat.zero_add,Nat.sub_zero,←Nat.add_mul,show 2*L.length-2=nd L T 0 from rfl]
  rw[Nat.sub_zero] at this
  rw[←this]
 |t+1,ht=>by
  have ih:=need_sum L T hL h t (by omega)
  have hs:=nd_split L T hL h ht
  have e:nd L T (t+1)=2*np ((lev L (T-t)).take (nd L T t)):=rfl
  show sumN _ (t+1)+jv L T (t+1)*2^(T-(t+1))+_=_
  rw[Nat.add_assoc,←Nat.add_mul,←hs,e,←ih]
  congr 1
  rw[show T-t=(T-(t+1))+1 by omega,Nat.pow_succ,Nat.mul_comm 2 (np _),Nat.mul_assoc,Nat.mul_comm 2 (2^_)]
theorem swap (f:Nat→Nat→Nat) (m:Nat): ∀n,sumN (fun i=>sumN (fun s=>f i s) m) n=sumN (fun s=>sumN (fun i=>f i s) n) m
 |0=>(sumN_zero m).symm
 |n+1=>by
  show sumN _ n+sumN (fun s=>f n s) m=_
  rw[swap f m n,←sumN_add]
  rfl
theorem kraft (L:List Nat) (T:Nat) (hL:Asc L) (h:L.length≤2^(T+1)) (h1:1≤L.length):sumN (fun i=>2^(T+1-dep L T i (T+1))) L.length=2^(T+1):=by
 have e1:=need_sum L T hL h T (Nat.le_refl _)
 rw[nd_last,Nat.zero_mul,Nat.add_zero] at e1
 have e2:sumN (fun i=>sumN (fun s=>if i<jv L T s then 2^(T-s) else 0) (T+1)) L.length=(2*L.length-2)*2^T:=by
  rw[swap,←e1]
  exact sumN_congr fun s _=>sumN_lt _ (jv_le L T hL s)
 have e3:sumN (fun i=>sumN (fun s=>if i<jv L T s then 2^(T-s) else 0) (T+1)+2^(T+1-dep L T i (T+1))) L.length=L.length*2^(T+1):=by
  rw[sumN_congr (g:=fun _=>2^(T+1)) fun i _=>dep_sum L T i hL h (T+1) (Nat.le_refl _),sumN_const]
 rw[sumN_add,e2] at e3
 obtain⟨n,hn⟩: ∃n,L.length=n+1:=⟨L.length-1,by omega⟩
 have e4:L.length*2^(T+1)=(2*L.length-2)*2^T+2^(T+1):=by
  rw[hn,show 2*(n+1)-2=n*2 by omega,Nat.pow_succ,Nat.add_mul,Nat.one_mul,Nat.mul_assoc,Nat.mul_comm 2 (2^T)]
 rw[e4] at e3
 exact Nat.add_left_cancel e3
theorem dep_pos (L:List Nat) (T:Nat) (hL:Asc L) (h:L.length≤2^(T+1)) (h2:2≤L.length) {i:Nat} (hi:i<L.length):1≤dep L T i (T+1):=by
 have hk:=kraft L T hL h (by omega)
 rcases Nat.eq_zero_or_pos (dep L T i (T+1)) with h0|h0
 ·exfalso
  have key: ∀n,i<n→2≤n→2^(T+1)<sumN (fun i=>2^(T+1-dep L T i (T+1))) n:=by
   have low: ∀n,i<n→2^(T+1)≤sumN (fun i=>2^(T+1-dep L T i (T+1))) n:=by
    intro n
    induction n with
    |zero=>intro h;omega
    |succ n ih=>
     intro hn
     show _≤sumN _ n+2^(T+1-dep L T n (T+1))
     by_cases e:i=n
     ·subst e;rw[h0,Nat.sub_zero];exact Nat.le_add_left _ _
     ·exact Nat.le_trans (ih (by omega)) (Nat.le_add_right _ _)
   intro n hn h2n
   obtain⟨m,rfl⟩: ∃m,n=m+1:=⟨n-1,by omega⟩
   show _<sumN _ m+2^(T+1-dep L T m (T+1))
   have hp:=Nat.two_pow_pos (T+1-dep L T m (T+1))
   by_cases e:i=m
   ·subst e
    rw[h0,Nat.sub_zero]
    have:0<sumN (fun i=>2^(T+1-dep L T i (T+1))) i:=by
     obtain⟨q,rfl⟩: ∃q,i=q+1:=⟨i-1,by omega⟩
     show 0<sumN _ q+2^(T+1-dep L T q (T+1))
     have:=Nat.two_pow_pos (T+1-dep L T q (T+1))
     omega
    omega
   ·have:=low m (by omega)
    omega
  have:=key L.length hi h2
  omega
 ·exact h0
end Pk
end Go.Proofs.YtmdgeoalamancaaGreatDoor
namespace Go.Proofs.YtmdgeoalamancaaGreatDoor
namespace Can
open Pk
def wgt (a:Nat):Nat:=if 1≤a∧a≤15 then 2^(15-a) else 0
def tot (ls:List Nat):Nat:=(ls.map wgt).sum
theorem krf_cons (a:Nat) (ls:List Nat): ∀n,n≤15→krf (a::ls) n=krf ls n+(if 1≤a∧a≤n then 2^(15-a) else 0)
 |0,_=>by rw[if_neg (by omega)];rfl
 |n+1,h=>by
  show krf (a::ls) n+mny (a::ls) (n+1)*2^(14-n)=krf ls n+mny ls (n+1)*2^(14-n)+_
  rw[krf_cons a ls n (by omega)]
  have e:mny (a::ls) (n+1)=mny ls (n+1)+if a=n+1 then 1 else 0:=by
   unfold mny
   rw[List.count_cons]
   by_cases q:a=n+1
   ·rw[if_pos q,if_pos (by rw[q];exact beq_self_eq_true _)]
   ·rw[if_neg q,if_neg (by simpa using q)]
  rw[e,Nat.add_mul]
  by_cases h1:a=n+1
  ·rw[if_pos h1,if_neg (by omega),if_pos (by omega),h1,Nat.one_mul,show 15-(n+1)=14-n by omega]
   omega
  ·rw[if_neg h1]
   by_cases h2:1≤a∧a≤n
   ·rw[if_pos h2,if_pos (by omega)];omega
   ·rw[if_neg h2,if_neg (by omega)];omega
theorem krf_tot: ∀ls:List Nat,krf ls 15=tot ls
 | []=>rfl
 |a::ls=>by
  rw[krf_cons a ls 15 (Nat.le_refl _),krf_tot ls]
  unfold tot
  rw[List.map_cons,List.sum_cons,Nat.add_comm]
  rfl
theorem wgt_zero:wgt 0=0:=rfl
theorem tot_zero (n:Nat):tot (List.replicate n 0)=0:=by
 unfold tot
 rw[List.map_replicate,wgt_zero]
 induction n with
 |zero=>rfl
 |succ n ih=>rw[List.replicate_succ,List.sum_cons,ih]
theorem tot_set: ∀(ls:List Nat) (s d:Nat),s<ls.length→ls.getD s 0=0→tot (ls.set s d)=tot ls+wgt d
 | [],s,d,h,_=>by simp at h
 |a::ls,0,d,_,h0=>by
  have:a=0:=h0
  subst this
  unfold tot
  rw[List.set_cons_zero,List.map_cons,List.sum_cons,List.map_cons,List.sum_cons,wgt_zero]
  omega
 |a::ls,s+1,d,h,h0=>by
  have ih:=tot_set ls s d (by simpa using h) h0
  unfold tot at ih ⊢
  rw[List.set_cons_succ,List.map_cons,List.sum_cons,List.map_cons,List.sum_cons,ih]
  omega
def lay (z:Nat) (sy:Nat→Nat) (d:Nat→Nat):Nat→List Nat
 |0=>List.replicate z 0
 |k+1=>(lay z sy d k).set (sy k) (d k)
theorem lay_len (z:Nat) (sy d:Nat→Nat): ∀k,(lay z sy d k).length=z
 |0=>by unfold lay;simp
 |k+1=>by unfold lay;rw[List.length_set,lay_len z sy d k]
theorem lay_no (z:Nat) (sy d:Nat→Nat) (s:Nat): ∀k,(∀i,i<k→sy i≠s)→(lay z sy d k).getD s 0=0
 |0,_=>by
  unfold lay
  rw[List.getD_eq_getElem?_getD]
  by_cases h:s<z
  ·rw[List.getElem?_replicate,if_pos h];rfl
  ·rw[List.getElem?_replicate,if_neg h];rfl
 |k+1,h=>by
  unfold lay
  rw[List.getD_eq_getElem?_getD,List.getElem?_set_ne (h k (by omega)),←List.getD_eq_getElem?_getD]
  exact lay_no z sy d s k fun i hi=>h i (by omega)
theorem lay_at (z:Nat) (sy d:Nat→Nat) (i:Nat) (hz:sy i<z): ∀k,i<k→(∀a b,a<b→b<k→sy a≠sy b)→(lay z sy d k).getD (sy i) 0=d i
 |k+1,hi,hd=>by
  unfold lay
  by_cases e:i=k
  ·subst e
   rw[List.getD_eq_getElem?_getD,List.getElem?_set_self (by rw[lay_len];exact hz)]
   rfl
  ·rw[List.getD_eq_getElem?_getD,List.getElem?_set_ne (fun q=>hd i k (by omega) (by omega) q.symm),←List.getD_eq_getElem?_getD]
   exact lay_at z sy d i hz k (by omega) fun a b h1 h2=>hd a b h1 (by omega)
theorem lay_tot (z:Nat) (sy d:Nat→Nat): ∀k,(∀i,i<k→sy i<z)→(∀a b,a<b→b<k→sy a≠sy b)→tot (lay z sy d k)=sumN (fun i=>wgt (d i)) k
 |0,_,_=>tot_zero z
 |k+1,hz,hd=>by
  show tot ((lay z sy d k).set (sy k) (d k))=sumN (fun i=>wgt (d i)) k+wgt (d k)
  rw[tot_set _ _ _ (by rw[lay_len];exact hz k (by omega)) (lay_no z sy d (sy k) k fun i hi=>hd i k hi (by omega)),lay_tot z sy d k (fun i hi=>hz i (by omega)) (fun a b h1 h2=>hd a b h1 (by omega))]
theorem sumN_mul (c:Nat) (f:Nat→Nat): ∀n,sumN (fun i=>f i*c) n=sumN f n*c
 |0=>by simp only[sumN];omega
 |n+1=>by simp only[sumN];rw[sumN_mul c f n,Nat.add_mul]
theorem made_full (L:List Nat) (T z:Nat) (sy:Nat→Nat) (hL:Asc L) (hT:T+1≤15) (h:L.length≤2^(T+1)) (h2:2≤L.length) (hz: ∀i,i<L.length→sy i<z) (hd: ∀a b,a<b→b<L.length→sy a≠sy b):krf (lay z sy (fun i=>dep L T i (T+1)) L.length) 15=2^15:=by
 rw[krf_tot,lay_tot z sy _ _ hz hd]
 have e: ∀i,i<L.length→wgt (dep L T i (T+1))=2^(T+1-dep L T i (T+1))*2^(15-(T+1)):=fun i hi=>by
  have h1:=dep_pos L T hL h h2 hi
  have h3:=dep_le L T i (T+1)
  unfold wgt
  rw[if_pos (by omega),←Nat.pow_add]
  congr 1
  omega
 rw[sumN_congr e,sumN_mul,kraft L T hL h (by omega),←Nat.pow_add]
 congr 1
 omega
end Can
end Go.Proofs.YtmdgeoalamancaaGreatDoor
