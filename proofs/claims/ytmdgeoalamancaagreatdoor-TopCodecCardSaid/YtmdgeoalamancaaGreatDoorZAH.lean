/- Which kind of set lengths are. A set of codes that may be. Symbols in the order of their codes, plain. Symbols in the order of their codes. -/
import Derived.Test.YtmdgeoalamancaaGreatDoorZAG
import Derived.Test.YtmdgeoalamancaaGreatDoorZAC
set_option maxRecDepth 100000
set_option linter.unusedVariables false
set_option linter.unusedSimpArgs false
namespace Go.Proofs.YtmdgeoalamancaaGreatDoor
open Go.RowKit
open Bt Can Mc
def cds (ls:List Nat):Nat→Nat
 |0=>0
 |n+1=>cds ls n+mny ls (n+1)
def kindN (ls:List Nat):Nat:=if 32768<krf ls 15 then 4 else if cds ls 15=0 then 0 else if krf ls 15=32768 then 3 else if cds ls 15=1∧mny ls 1=1 then 1 else 2
theorem cds_le (ls:List Nat): ∀n,cds ls n≤ls.length*n
 |0=>Nat.le_refl _
 |n+1=>by
  have h1:=cds_le ls n
  have h2:mny ls (n+1)≤ls.length:=List.count_le_length
  show cds ls n+mny ls (n+1)≤ls.length*(n+1)
  rw[Nat.mul_succ]
  omega
theorem krf_le (ls:List Nat): ∀n,krf ls n≤ls.length*32768*n
 |0=>Nat.le_refl _
 |n+1=>by
  have h1:=krf_le ls n
  have h2:mny ls (n+1)≤ls.length:=List.count_le_length
  have h3:2^(14-n)≤32768:=Nat.le_trans (Nat.pow_le_pow_right (by decide) (show 14-n≤15 by omega)) (by decide)
  have h4:mny ls (n+1)*2^(14-n)≤ls.length*32768:=Nat.mul_le_mul h2 h3
  show krf ls n+mny ls (n+1)*2^(14-n)≤ls.length*32768*(n+1)
  rw[Nat.mul_succ]
  omega
set_option maxHeartbeats 4000000 in
theorem kind_any (ls:List Nat) (n:Nat) (v:Value) (B:Nat) (w:World) (h:Sl w B 1 v n (iC ls)) (hB:B≤w.heap.size) (hn:n=ls.length) (hl:n≤1000) (h15: ∀x∈ls,x≤15):
  Calls Tryz.prog 171 #[v] w fun e w'=>e= .returned (.int .i64 (kindN ls:Nat))∧Below w.heap.size w w':=by
 obtain⟨a,cap,rfl,hcap⟩:=h.form
 have HT:=Lib.hid (tally_any ls n _ B w h hB hn (by omega) h15)
 have hag:(tC ls).toArray=#[.int .i64 (ls.count 0:Nat),.int .i64 (ls.count 1:Nat),.int .i64 (ls.count 2:Nat),.int .i64 (ls.count 3:Nat),.int .i64 (ls.count 4:Nat),.int .i64 (ls.count 5:Nat),.int .i64 (ls.count 6:Nat),.int .i64 (ls.count 7:Nat),.int .i64 (ls.count 8:Nat),.int .i64 (ls.count 9:Nat),.int .i64 (ls.count 10:Nat),.int .i64 (ls.count 11:Nat),.int .i64 (ls.count 12:Nat),.int .i64 (ls.count 13:Nat),.int .i64 (ls.count 14:Nat),.int .i64 (ls.count 15:Nat)]:=rfl
 rw[hag] at HT
 have hll:ls.length≤1000:=by omega
 clear h hn h15 hag
 go_enter Tryz.func171,Tryz.ntmps171
 go_wp2_with (fail)
 refine HT.out.mono ?_
 rintro e w1 ⟨rfl,hb1⟩
 obtain⟨wa,hwa⟩: ∃z:World,z=w1.alloc (.cells #[.int .i64 (ls.count 0:Nat),.int .i64 (ls.count 1:Nat),.int .i64 (ls.count 2:Nat),.int .i64 (ls.count 3:Nat),.int .i64 (ls.count 4:Nat),.int .i64 (ls.count 5:Nat),.int .i64 (ls.count 6:Nat),.int .i64 (ls.count 7:Nat),.int .i64 (ls.count 8:Nat),.int .i64 (ls.count 9:Nat),.int .i64 (ls.count 10:Nat),.int .i64 (ls.count 11:Nat),.int .i64 (ls.count 12:Nat),.int .i64 (ls.count 13:Nat),.int .i64 (ls.count 14:Nat),.int .i64 (ls.count 15:Nat)] 239):=⟨_,rfl⟩
 have HO:Hid (Own wa w1.heap.size (tC ls)):=Lib.hid (by rw[hwa];exact Own.new_at w1 (tC ls) _ _ rfl)
 have HB:Hid (Below w.heap.size w wa):=Lib.hid (by rw[hwa];exact hb1.alloc hb1.size _)
 have hza:w1.heap.size<wa.heap.size:=by rw[hwa];simp
 clear hb1 HT
 go_upto_region 2 with (fail)
 rw[←hwa]
 clear hwa
 obtain⟨tb,htb⟩: ∃z,w1.heap.size=z:=⟨_,rfl⟩
 rw[htb] at HO hza ⊢
 clear htb
 go_wp2_with (fail)
 go_loopw [5,6,7] (fun s c i wr=> ∃j:Nat,i= .int .i64 ((j:Int)+1)∧j≤15∧s= .int .i64 (krf ls j:Nat)∧c= .int .i64 (cds ls j:Nat)∧Hid (Own wr tb (tC ls))∧Hid (Below w.heap.size w wr)∧tb<wr.heap.size) (fun _ _ i _=>17-(intOf i).toNat)
 case atStart=>exact⟨0,rfl,by omega,rfl,rfl,HO,HB,hza⟩
 case round=>
  clear HO HB hza
  obtain⟨j,rfl,hj,rfl,rfl,HO,HB,hz⟩:=hrel
  obtain⟨wo,rfl⟩: ∃z:World,z=wr:=⟨_,rfl⟩
  by_cases hlt:j<15
  ·have d1:decide ((j:Int)+1≤15)=true:=decide_eq_true (by omega)
   have d1':decide (j+1≤15)=true:=decide_eq_true (by omega)
   have q1:IntKind.i64.wrap ((j:Int)+1+1)=((j+1:Nat):Int)+1:=by rw[IntWalk.i64_in _ (by omega)];omega
   have kx:=HO.out.1 (j+1) _ (tC_get ls (by omega))
   have hks:krf ls (j+1)=krf ls j+mny ls (j+1)*2^(14-j):=rfl
   have hcs:cds ls (j+1)=cds ls j+mny ls (j+1):=rfl
   have hkl:=krf_le ls j
   have hcl:=cds_le ls j
   have hm1:ls.length*32768*j≤1000*32768*15:=Nat.mul_le_mul (Nat.mul_le_mul hll (Nat.le_refl _)) hj
   have hm2:ls.length*j≤1000*15:=Nat.mul_le_mul hll hj
   have hml:mny ls (j+1)≤1000:=Nat.le_trans List.count_le_length hll
   have hP:2^(14-j)≤32768:=Nat.le_trans (Nat.pow_le_pow_right (by decide) (show 14-j≤15 by omega)) (by decide)
   have y1:(32768:Int)/(2:Int)^(j+1)=((2^(14-j):Nat):Int):=by
    have e:(32768:Nat)=2^(14-j)*2^(j+1):=by rw[←Nat.pow_add,show 14-j+(j+1)=15 by omega]
    have e2:(32768:Int)=((2^(14-j):Nat):Int)*(2:Int)^(j+1):=by
     have:=congrArg (fun z:Nat=>(z:Int)) e
     push_cast at this ⊢
     exact this
    rw[e2]
    exact Int.mul_ediv_cancel _ (Int.pow_ne_zero (by decide))
   have hQ:mny ls (j+1)*2^(14-j)≤1000*32768:=Nat.mul_le_mul hml hP
   rw[show ls.count (j+1)=mny ls (j+1) from rfl] at kx
   obtain⟨P,hP0⟩: ∃z,2^(14-j)=z:=⟨_,rfl⟩
   obtain⟨M,hM0⟩: ∃z,mny ls (j+1)=z:=⟨_,rfl⟩
   rw[hP0] at y1 hQ hks
   rw[hM0] at hQ hks hcs kx hml
   have y2:IntKind.i64.wrap (((M:Nat):Int)*((P:Nat):Int))=((M*P:Nat):Int):=by rw[IntWalk.i64_in _ (by push_cast at*;omega)];push_cast;rfl
   obtain⟨Q,hQ0⟩: ∃z,M*P=z:=⟨_,rfl⟩
   rw[hQ0] at y2 hQ hks
   obtain⟨K,hK0⟩: ∃z,krf ls j=z:=⟨_,rfl⟩
   rw[hK0] at hks hkl ⊢
   obtain⟨C,hC0⟩: ∃z,cds ls j=z:=⟨_,rfl⟩
   rw[hC0] at hcs hcl ⊢
   have y3:IntKind.i64.wrap (((K:Nat):Int)+((Q:Nat):Int))=((K+Q:Nat):Int):=by rw[IntWalk.i64_in _ (by omega)];omega
   have y4:IntKind.i64.wrap (((C:Nat):Int)+((M:Nat):Int))=((C+M:Nat):Int):=by rw[IntWalk.i64_in _ (by omega)];omega
   obtain⟨K2,hK2⟩: ∃z,K+Q=z:=⟨_,rfl⟩
   obtain⟨C2,hC2⟩: ∃z,C+M=z:=⟨_,rfl⟩
   rw[hK2] at y3 hks
   rw[hC2] at y4 hcs
   have HKS:=Lib.hid hks
   have HCS:=Lib.hid hcs
   have HM0:=Lib.hid hM0
   have hji:(j:Int)+1<16:=by omega
   clear hks hcs hkl hcl hm1 hm2 hP0 hM0 hQ0 hK0 hC0 hK2 hC2 hP hQ
   go_upto_region 8 with (fail)
   go_quiet (fail)
   have HO9:Hid (Own (wo.drewN nq) tb (tC ls)):=HO
   have HB9:=Lib.hid (below_drewN HB.out nq)
   have hz9:tb<(wo.drewN nq).heap.size:=hz
   clear kx
   generalize wo.drewN nq=w9 at*
   have kx:=HO9.out.1 (j+1) (.int .i64 (M:Nat)) (by rw[tC_get ls (by omega)];exact congrArg (fun z:Nat=>some (Value.int .i64 (z:Int))) HM0.out)
   go_wp2_with (fail)
   go_roundw
   case rel=>exact⟨j+1,by first|rfl|exact congrArg (Value.int .i64) (by omega),hlt,by rw[HKS.out],by rw[HCS.out],HO9,HB9,hz9⟩
   case measure=>simp[intOf]<;>omega
  ·obtain rfl:j=15:=by omega
   have hkl:=krf_le ls 15
   have k1:=HO.out.1 1 _ (tC_get ls (by omega))
   rw[show ls.count 1=mny ls 1 from rfl] at k1
   have HKN:Hid (kindN ls=if 32768<krf ls 15 then 4 else if cds ls 15=0 then 0 else if krf ls 15=32768 then 3 else if cds ls 15=1∧mny ls 1=1 then 1 else 2):=Lib.hid rfl
   obtain⟨K,hK0⟩: ∃z,krf ls 15=z:=⟨_,rfl⟩
   obtain⟨C,hC0⟩: ∃z,cds ls 15=z:=⟨_,rfl⟩
   obtain⟨M,hM0⟩: ∃z,mny ls 1=z:=⟨_,rfl⟩
   rw[hK0,hC0,hM0] at HKN
   rw[hK0,hC0]
   rw[hM0] at k1
   clear hK0 hC0 hM0 hkl
   by_cases c1:32768<K
   ·have e1:decide (32768<K)=true:=decide_eq_true c1
    have e1':decide ((32768:Int)<(K:Int))=true:=decide_eq_true (by omega)
    rw[if_pos c1] at HKN
    go_wp2_with (fail)
    go_ret
    exact⟨by rw[HKN.out];rfl,HB.out⟩
   have e1:decide (32768<K)=false:=decide_eq_false c1
   have e1':decide ((32768:Int)<(K:Int))=false:=decide_eq_false (by omega)
   rw[if_neg c1] at HKN
   by_cases c2:C=0
   ·have e2:((C:Int)==0)=true:=by simp;omega
    have e2':(C==0)=true:=by simp;omega
    rw[if_pos c2] at HKN
    go_wp2_with (fail)
    go_ret
    exact⟨by rw[HKN.out];rfl,HB.out⟩
   have e2:((C:Int)==0)=false:=by simp;omega
   have e2':(C==0)=false:=by simp;omega
   rw[if_neg c2] at HKN
   by_cases c3:K=32768
   ·have e3:((K:Int)==32768)=true:=by simp;omega
    have e3':(K==32768)=true:=by simp;omega
    rw[if_pos c3] at HKN
    go_wp2_with (fail)
    go_ret
    exact⟨by rw[HKN.out];rfl,HB.out⟩
   have e3:((K:Int)==32768)=false:=by simp;omega
   have e3':(K==32768)=false:=by simp;omega
   rw[if_neg c3] at HKN
   by_cases c4:C=1
   ·have e4:((C:Int)==1)=true:=by simp;omega
    have e4':(C==1)=true:=by simp;omega
    by_cases c5:M=1
    ·have e5:((M:Int)==1)=true:=by simp;omega
     have e5':(M==1)=true:=by simp;omega
     rw[if_pos ⟨c4,c5⟩] at HKN
     go_wp2_with (fail)
     go_ret
     exact⟨by rw[HKN.out];rfl,HB.out⟩
    have e5:((M:Int)==1)=false:=by simp;omega
    have e5':(M==1)=false:=by simp;omega
    rw[if_neg (by omega)] at HKN
    go_wp2_with (fail)
    go_ret
    exact⟨by rw[HKN.out];rfl,HB.out⟩
   have e4:((C:Int)==1)=false:=by simp;omega
   have e4':(C==1)=false:=by simp;omega
   rw[if_neg (by omega)] at HKN
   go_wp2_with (fail)
   go_ret
   exact⟨by rw[HKN.out];rfl,HB.out⟩
end Go.Proofs.YtmdgeoalamancaaGreatDoor
namespace Go.Proofs.YtmdgeoalamancaaGreatDoor
open Go.RowKit
open Bt Can Mc
theorem krf_cds (ls:List Nat): ∀n,n≤15→(krf ls n=0↔cds ls n=0)
 |0,_=>⟨fun _=>rfl,fun _=>rfl⟩
 |n+1,h=>by
  have ih:=krf_cds ls n (by omega)
  show krf ls n+mny ls (n+1)*2^(14-n)=0↔cds ls n+mny ls (n+1)=0
  have hp:=Nat.two_pow_pos (14-n)
  constructor
  ·intro h1
   have h2:mny ls (n+1)*2^(14-n)=0:=by omega
   have h3:mny ls (n+1)=0:=by
    rcases Nat.mul_eq_zero.1 h2 with h3|h3
    ·exact h3
    ·omega
   have:=ih.1 (by omega)
   omega
  ·intro h1
   have h3:mny ls (n+1)=0:=by omega
   have:=ih.2 (by omega)
   rw[h3,this]
   omega
theorem krf_one (ls:List Nat) (h1:mny ls 1=1): ∀n,1≤n→n≤15→krf ls n=16384→cds ls n=1
 |0,h,_,_=>by omega
 |1,_,_,_=>by show 0+mny ls 1=1;omega
 |n+2,_,hn,hk=>by
  have ge: ∀m,1≤m→16384≤krf ls m:=fun m hm=>by
   have:=krf_mono ls hm
   have e:krf ls 1=0+mny ls 1*2^(14-0):=rfl
   rw[h1] at e
   omega
  have h2:=ge (n+1) (by omega)
  have e:krf ls (n+2)=krf ls (n+1)+mny ls (n+2)*2^(14-(n+1)):=rfl
  have hp:=Nat.two_pow_pos (14-(n+1))
  have h3:mny ls (n+2)*2^(14-(n+1))=0:=by omega
  have h4:mny ls (n+2)=0:=by
   rcases Nat.mul_eq_zero.1 h3 with h4|h4
   ·exact h4
   ·omega
  have ih:=krf_one ls h1 (n+1) (by omega) (by omega) (by omega)
  show cds ls (n+1)+mny ls (n+2)=1
  omega
theorem kind_may {ls:List Nat} {k:Nat} (h:May ls k):kindN ls=3∨(1≤k∧kindN ls=1)∨(2≤k∧kindN ls=0):=by
 unfold kindN
 have hc:=krf_cds ls 15 (Nat.le_refl _)
 rcases h.kr with h1|⟨h2,h1,h3⟩|⟨h2,h1⟩
 ·left
  have e:krf ls 15=32768:=h1
  have: ¬cds ls 15=0:=fun q=>by have:=hc.2 q;omega
  rw[if_neg (by omega),if_neg this,if_pos e]
 ·right;left
  have e:krf ls 15=16384:=h1
  have e2:=krf_one ls h3 15 (by decide) (Nat.le_refl _) e
  refine⟨h2,?_⟩
  rw[if_neg (by omega),if_neg (by omega),if_neg (by omega),if_pos ⟨e2,h3⟩]
 ·right;right
  refine⟨h2,?_⟩
  rw[if_neg (by omega),if_pos (hc.1 h1)]
set_option maxHeartbeats 2000000 in
theorem may_any (ls:List Nat) (n k:Nat) (v:Value) (B:Nat) (w:World) (h:Sl w B 1 v n (iC ls)) (hB:B≤w.heap.size) (hn:n=ls.length) (hl:n≤1000) (hm:May ls k) (hk:k≤2):
  Calls Tryz.prog 131 #[v,.int .i64 (k:Nat)] w fun e w'=>e= .returned (.int .i64 0)∧Below w.heap.size w w':=by
 have HK:=Lib.hid (kind_any ls n v B w h hB hn hl hm.le)
 have HM:=Lib.hid (kind_may hm)
 obtain⟨a,cap,rfl,_⟩:=h.form
 obtain⟨K,hK⟩: ∃z,kindN ls=z:=⟨_,rfl⟩
 rw[hK] at HK HM
 clear h hn hm hK
 go_enter Tryz.func131,Tryz.ntmps131
 go_wp2_with (fail)
 refine HK.out.mono ?_
 rintro e w1 ⟨rfl,hb1⟩
 have HB:=Lib.hid hb1
 clear hb1 HK
 rcases HM.out with rfl|⟨h1,rfl⟩|⟨h1,rfl⟩
 ·go_wp2_with (fail)
  go_ret
  exact⟨by rfl,HB.out⟩
 ·have d1:decide ((1:Int)≤(k:Int))=true:=decide_eq_true (by omega)
  have d2:decide (1≤k)=true:=decide_eq_true h1
  have d3:decide (0<k)=true:=decide_eq_true (by omega)
  go_wp2_with (fail)
  go_ret
  exact⟨by rfl,HB.out⟩
 ·have d1:decide ((2:Int)≤(k:Int))=true:=decide_eq_true (by omega)
  have d2:decide (2≤k)=true:=decide_eq_true h1
  go_wp2_with (fail)
  go_ret
  exact⟨by rfl,HB.out⟩
end Go.Proofs.YtmdgeoalamancaaGreatDoor
namespace Go.Proofs.YtmdgeoalamancaaGreatDoor
namespace Can
open Mc
def pos (ls:List Nat) (s:Nat):Nat:=idx ls (len ls s)+rnk ls s
theorem idx_mono (ls:List Nat) {m n:Nat} (h1:1≤m) (h:m≤n):idx ls m≤idx ls n:=by
 induction n with
 |zero=>omega
 |succ n ih=>
  by_cases e:m=n+1
  ·subst e;exact Nat.le_refl _
  ·have:=ih (by omega)
   rw[idx_step ls (by omega)]
   omega
theorem pos_lt (ls:List Nat) {s:Nat} (h:Has ls s) (h15:len ls s≤15):pos ls s<idx ls 16:=by
 have h1:=rnk_lt ls h.1
 have h2:=idx_step ls h.2
 have h3:=idx_mono ls (show 1≤len ls s+1 by omega) (show len ls s+1≤16 by omega)
 unfold pos
 omega
theorem rnk_step (ls:List Nat) {s t:Nat} (hst:s<t) (ht:t<ls.length) (e:len ls s=len ls t):rnk ls s<rnk ls t:=by
 unfold rnk
 rw[←e]
 have hs:s<ls.length:=by omega
 have hl:len ls s=ls[s]:=by unfold len;rw[List.getD_eq_getElem?_getD,List.getElem?_eq_getElem hs];rfl
 have h1:ls.take t=ls.take s++(ls.take t).drop s:=by
  conv=>lhs;rw[←List.take_append_drop s (ls.take t),List.take_take,Nat.min_eq_left (by omega)]
 rw[h1,List.count_append]
 have h2:(ls.take t).drop s=ls[s]::(ls.take t).drop (s+1):=by
  rw[List.drop_eq_getElem_cons (by rw[List.length_take];omega),List.getElem_take]
 rw[h2,List.count_cons,hl]
 simp
theorem pos_inj (ls:List Nat) {s t:Nat} (hs:Has ls s) (ht:Has ls t) (hst:s<t):pos ls s≠pos ls t:=by
 have h1:=rnk_lt ls hs.1
 have h2:=rnk_lt ls ht.1
 unfold pos
 by_cases e:len ls s=len ls t
 ·have:=rnk_step ls hst ht.1 e
  rw[e]
  omega
 ·rcases Nat.lt_or_gt_of_ne e with h|h
  ·have h3:=idx_mono ls (show 1≤len ls s+1 by omega) (show len ls s+1≤len ls t by omega)
   have h4:=idx_step ls hs.2
   omega
  ·have h3:=idx_mono ls (show 1≤len ls t+1 by omega) (show len ls t+1≤len ls s by omega)
   have h4:=idx_step ls ht.2
   omega
theorem len_le {ls:List Nat} (h15: ∀a∈ls,a≤15) {s:Nat}:len ls s≤15:=by
 unfold len
 rw[List.getD_eq_getElem?_getD]
 cases h:ls[s]? with
 |none=>exact Nat.zero_le _
 |some x=>exact h15 x (List.mem_of_getElem? h)
def srt (ls:List Nat):Nat→List Nat
 |0=>List.replicate (idx ls 16) 0
 |q+1=>if 1≤len ls q then (srt ls q).set (pos ls q) q else srt ls q
theorem srt_len (ls:List Nat): ∀q,(srt ls q).length=idx ls 16
 |0=>by unfold srt;simp
 |q+1=>by
  unfold srt
  split
  ·rw[List.length_set,srt_len ls q]
  ·exact srt_len ls q
theorem srt_at (ls:List Nat) (h15: ∀a∈ls,a≤15) {s:Nat} (hs:Has ls s): ∀q,s<q→q≤ls.length→(srt ls q)[pos ls s]? =some s
 |q+1,h,hq=>by
  have hl:=len_le h15 (s:=s)
  unfold srt
  by_cases e:s=q
  ·subst e
   rw[if_pos hs.2,List.getElem?_set_self (by rw[srt_len];exact pos_lt ls hs hl)]
  ·split
   ·rename_i h1
    rw[List.getElem?_set_ne (fun q2=>pos_inj ls hs (⟨by omega,h1⟩:Has ls q) (by omega) q2.symm)]
    exact srt_at ls h15 hs q (by omega) (by omega)
   ·exact srt_at ls h15 hs q (by omega) (by omega)
end Can
end Go.Proofs.YtmdgeoalamancaaGreatDoor
namespace Go.Proofs.YtmdgeoalamancaaGreatDoor
open Go.RowKit
open Bt Can Mc
def aC (ls:List Nat) (j:Nat):List Value:=(List.range 17).map fun n=> .int .i64 ((if n≤j+1 then idx ls n else 0:Nat):Int)
theorem aC_len (ls:List Nat) (j:Nat):(aC ls j).length=17:=by unfold aC;simp
theorem aC_get (ls:List Nat) (j:Nat) {n:Nat} (h:n<17):(aC ls j)[n]? =some (.int .i64 ((if n≤j+1 then idx ls n else 0:Nat):Int)):=by
 unfold aC
 rw[List.getElem?_map,List.getElem?_range h]
 rfl
theorem aC_zero (ls:List Nat):List.replicate 17 (Value.int .i64 0)=aC ls 0:=by
 refine List.ext_getElem? fun k=> ?_
 by_cases hk:k<17
 ·rw[aC_get _ _ hk,List.getElem?_replicate,if_pos hk]
  by_cases h1:k≤0+1
  ·rw[if_pos h1]
   have:k=0∨k=1:=by omega
   rcases this with rfl|rfl<;>rfl
  ·rw[if_neg h1];rfl
 ·rw[List.getElem?_eq_none (by simp;omega),List.getElem?_eq_none (by rw[aC_len];omega)]
theorem iC_set (l:List Nat) (j x:Nat):(iC l).set j (.int .i64 (x:Nat))=iC (l.set j x):=by unfold iC;rw[List.map_set]
theorem aC_step (ls:List Nat) {j:Nat} (hj:j<15):(aC ls j).set (j+2) (.int .i64 (idx ls (j+2):Nat))=aC ls (j+1):=by
 refine List.ext_getElem? fun k=> ?_
 by_cases hk:k<17
 ·rw[aC_get _ _ hk]
  by_cases e:j+2=k
  ·subst e
   rw[List.getElem?_set_self (by rw[aC_len];omega),if_pos (by omega)]
  ·rw[List.getElem?_set_ne e,aC_get _ _ hk]
   by_cases h1:k≤j+1
   ·rw[if_pos h1,if_pos (by omega)]
   ·rw[if_neg h1,if_neg (by omega)]
 ·rw[List.getElem?_eq_none (by rw[List.length_set,aC_len];omega),List.getElem?_eq_none (by rw[aC_len];omega)]
def bCs (ls:List Nat) (q:Nat):List Value:=(List.range 17).map fun n=> .int .i64 ((if n=0 then 0 else idx ls n+(ls.take q).count n:Nat):Int)
theorem bCs_len (ls:List Nat) (q:Nat):(bCs ls q).length=17:=by unfold bCs;simp
theorem bCs_get (ls:List Nat) (q:Nat) {n:Nat} (h:n<17):(bCs ls q)[n]? =some (.int .i64 ((if n=0 then 0 else idx ls n+(ls.take q).count n:Nat):Int)):=by
 unfold bCs
 rw[List.getElem?_map,List.getElem?_range h]
 rfl
theorem aC_bCs (ls:List Nat):aC ls 15=bCs ls 0:=by
 refine List.ext_getElem? fun k=> ?_
 by_cases hk:k<17
 ·rw[aC_get _ _ hk,bCs_get _ _ hk,if_pos (by omega),List.take_zero]
  by_cases h0:k=0
  ·subst h0;rfl
  ·rw[if_neg h0];rfl
 ·rw[List.getElem?_eq_none (by rw[aC_len];omega),List.getElem?_eq_none (by rw[bCs_len];omega)]
theorem bCs_step (ls:List Nat) {q x:Nat} (hx:ls[q]? =some x) (h1:1≤x) (h15:x≤15):(bCs ls q).set x (.int .i64 ((idx ls x+(ls.take q).count x+1:Nat):Int))=bCs ls (q+1):=by
 refine List.ext_getElem? fun k=> ?_
 by_cases hk:k<17
 ·rw[bCs_get _ _ hk,List.take_add_one,hx,List.count_append]
  by_cases e:x=k
  ·subst e
   rw[List.getElem?_set_self (by rw[bCs_len];omega),if_neg (by omega)]
   simp
   omega
  ·rw[List.getElem?_set_ne e,bCs_get _ _ hk]
   simp[List.count_cons,e]
 ·rw[List.getElem?_eq_none (by rw[List.length_set,bCs_len];omega),List.getElem?_eq_none (by rw[bCs_len];omega)]
theorem bCs_zero (ls:List Nat) {q:Nat} (hx:ls[q]? =some 0):bCs ls q=bCs ls (q+1):=by
 refine List.ext_getElem? fun k=> ?_
 by_cases hk:k<17
 ·rw[bCs_get _ _ hk,bCs_get _ _ hk,List.take_add_one,hx,List.count_append]
  by_cases h0:k=0
  ·rw[if_pos h0,if_pos h0]
  ·rw[if_neg h0,if_neg h0]
   have:[0].count k=0:=by simp[List.count_cons];omega
   show some (Value.int .i64 ((idx ls k+(ls.take q).count k:Nat):Int))=some (Value.int .i64 ((idx ls k+((ls.take q).count k+[0].count k):Nat):Int))
   rw[this]
   rfl
 ·rw[List.getElem?_eq_none (by rw[bCs_len];omega),List.getElem?_eq_none (by rw[bCs_len];omega)]
theorem iC_rep (n:Nat):iC (List.replicate n 0)=List.replicate n (.int .i64 0):=by unfold iC;rw[List.map_replicate];rfl
theorem made_one (n:Nat) (z:Value) (hz:z.cells=#[z]):madeCells z.cells ((((n:Nat):Int)).toNat*1)=(List.replicate n z).toArray:=by
 rw[show (((n:Nat):Int)).toNat*1=n by omega]
 refine Array.ext (by simp[size_madeCells]) fun i h1 h2=> ?_
 simp[madeCells,hz,Nat.mod_one]
theorem hmkI (n:Nat) (W:World) (hn:n≤2000000):(Instr.makeSlice 55 (.int .i64 ((n:Nat):Int)) (.int .i64 ((n:Nat):Int))).run Tryz.prog W= .ok (.slice (some ⟨W.heap.size,0,none⟩) n n) (W.alloc (.cells (iC (List.replicate n 0)).toArray 3)):=by
 obtain⟨i0,hi,hz0,hz1,hz2⟩:=info_parts info_in
 have:=run_makeSlice (P:=Tryz.prog) W 55 3 i0 (.int .i64 0) Tryz.underlying55 hi hz0 .i64 .i64 ((n:Nat):Int) ((n:Nat):Int) (by omega) (Int.le_refl _) (by rw[hz1];omega) (by rw[hz2];omega) (by omega)
 rw[this,hz1,made_one n _ rfl,iC_rep]
 rw[show (((n:Nat):Int)).toNat=n by omega]
set_option maxHeartbeats 4000000 in
theorem sorted_any (ls:List Nat) (n:Nat) (v:Value) (B:Nat) (w:World) (h:Sl w B 1 v n (iC ls)) (hB:B≤w.heap.size) (hn:n=ls.length) (hl:n≤1000) (h15: ∀x∈ls,x≤15):
  Calls Tryz.prog 132 #[v] w fun e w'=> ∃v' sy,e= .returned v'∧Row w.heap.size 3 1 w' v' sy.length (iC sy)∧(∀s,Has ls s→sy[idx ls (len ls s)+rnk ls s]? =some s)∧Below w.heap.size w w':=by
 obtain⟨a,cap,rfl,hcap⟩:=h.form
 have HS:=Lib.hid (fun (W:World) (hW:Below w.heap.size w W)=>h.below (hW.mono hB))
 have HT:=Lib.hid (tally_any ls n _ B w h hB hn (by omega) h15)
 have hag:(tC ls).toArray=#[.int .i64 (ls.count 0:Nat),.int .i64 (ls.count 1:Nat),.int .i64 (ls.count 2:Nat),.int .i64 (ls.count 3:Nat),.int .i64 (ls.count 4:Nat),.int .i64 (ls.count 5:Nat),.int .i64 (ls.count 6:Nat),.int .i64 (ls.count 7:Nat),.int .i64 (ls.count 8:Nat),.int .i64 (ls.count 9:Nat),.int .i64 (ls.count 10:Nat),.int .i64 (ls.count 11:Nat),.int .i64 (ls.count 12:Nat),.int .i64 (ls.count 13:Nat),.int .i64 (ls.count 14:Nat),.int .i64 (ls.count 15:Nat)]:=rfl
 rw[hag] at HT
 have HN:=Lib.hid hn
 have H15:=Lib.hid h15
 have hll:ls.length≤1000:=by omega
 clear h hn h15 hag
 go_enter Tryz.func132,Tryz.ntmps132
 go_wp2_with (fail)
 refine HT.out.mono ?_
 rintro e w1 ⟨rfl,hb1⟩
 obtain⟨wa,hwa⟩: ∃z:World,z=(w1.alloc (.cells #[.int .i64 (ls.count 0:Nat),.int .i64 (ls.count 1:Nat),.int .i64 (ls.count 2:Nat),.int .i64 (ls.count 3:Nat),.int .i64 (ls.count 4:Nat),.int .i64 (ls.count 5:Nat),.int .i64 (ls.count 6:Nat),.int .i64 (ls.count 7:Nat),.int .i64 (ls.count 8:Nat),.int .i64 (ls.count 9:Nat),.int .i64 (ls.count 10:Nat),.int .i64 (ls.count 11:Nat),.int .i64 (ls.count 12:Nat),.int .i64 (ls.count 13:Nat),.int .i64 (ls.count 14:Nat),.int .i64 (ls.count 15:Nat)] 239)).alloc (.cells #[.int .i64 0,.int .i64 0,.int .i64 0,.int .i64 0,.int .i64 0,.int .i64 0,.int .i64 0,.int .i64 0,.int .i64 0,.int .i64 0,.int .i64 0,.int .i64 0,.int .i64 0,.int .i64 0,.int .i64 0,.int .i64 0,.int .i64 0] 286):=⟨_,rfl⟩
 have HO:Hid (Own wa w1.heap.size (tC ls)):=Lib.hid (by rw[hwa];exact (Own.new_at w1 (tC ls) _ _ rfl).below ((Below.refl _ _).alloc (Nat.le_refl _) _) (by simp))
 have HA:Hid (Own wa (w1.heap.size+1) (List.replicate 17 (.int .i64 0))):=Lib.hid (by rw[hwa];exact Own.new_at _ (List.replicate 17 (.int .i64 0)) _ _ (by simp))
 have HB:Hid (Below w.heap.size w wa):=Lib.hid (by rw[hwa];exact (hb1.alloc hb1.size _).alloc (by have:=hb1.size;simp;omega) _)
 have hza:w1.heap.size+2≤wa.heap.size:=by rw[hwa];simp
 have hz1:=hb1.size
 clear hb1 HT
 go_upto_region 3 with (fail)
 rw[←hwa]
 clear hwa
 obtain⟨tb,htb⟩: ∃z,w1.heap.size=z:=⟨_,rfl⟩
 rw[htb] at HO HA hza hz1 ⊢
 clear htb
 rw[aC_zero ls] at HA
 go_wp2_with (fail)
 go_loopw [6] (fun i wr=> ∃j:Nat,i= .int .i64 ((j:Int)+1)∧j≤15∧Hid (Own wr tb (tC ls))∧Hid (Own wr (tb+1) (aC ls j))∧Hid (Below w.heap.size w wr)∧tb+2≤wr.heap.size) (fun i _=>17-(intOf i).toNat)
 case atStart=>exact⟨0,rfl,by omega,HO,HA,HB,hza⟩
 case round=>
  clear HO HA HB hza
  obtain⟨j,rfl,hj,HO,HA,HB,hz⟩:=hrel
  obtain⟨wo,rfl⟩: ∃z:World,z=wr:=⟨_,rfl⟩
  by_cases hlt:j<15
  ·as_aux_lemma=>
   have d1:decide ((j:Int)+1≤15)=true:=decide_eq_true (by omega)
   have d1':decide (j+1≤15)=true:=decide_eq_true (by omega)
   have q1:IntKind.i64.wrap ((j:Int)+1+1)=(j:Int)+1+1:=IntWalk.i64_in _ (by omega)
   have k0:=HO.out.1 (j+1) _ (tC_get ls (by omega))
   have k1:=HA.out.1 (j+1) (.int .i64 (idx ls (j+1):Nat)) (by rw[aC_get _ _ (by omega),if_pos (Nat.le_refl _)])
   have k2:=HA.out.1 (j+2) (.int .i64 0) (by rw[aC_get _ _ (by omega),if_neg (by omega)];rfl)
   have f2:=HA.out.2 (j+2)
   have hst:=idx_step ls (n:=j+1) (by omega)
   have hil:=idx_le ls (j+1)
   have hm1:ls.length*(j+1)≤1000*16:=Nat.mul_le_mul hll (by omega)
   have hml:mny ls (j+1)≤1000:=Nat.le_trans List.count_le_length hll
   have HST:=Lib.hid (aC_step ls hlt)
   rw[show ls.count (j+1)=mny ls (j+1) from rfl] at k0
   obtain⟨M,hM⟩: ∃z,mny ls (j+1)=z:=⟨_,rfl⟩
   obtain⟨I,hI⟩: ∃z,idx ls (j+1)=z:=⟨_,rfl⟩
   obtain⟨I2,hI2⟩: ∃z,idx ls (j+2)=z:=⟨_,rfl⟩
   rw[show j+1+1=j+2 by omega,hI2,hI,hM] at hst
   rw[hM] at k0 hml
   rw[hI] at k1 hil
   rw[hI2] at HST
   have y1:IntKind.i64.wrap (((I:Nat):Int)+((M:Nat):Int))=((I2:Nat):Int):=by rw[IntWalk.i64_in _ (by omega)];omega
   have hj17:(j:Int)+1<17:=by omega
   have hj16:(j:Int)+1<16:=by omega
   have hj18:(j:Int)+1+1<17:=by omega
   clear hst hil hm1 hM hI hI2
   go_upto_region 6 with (fail)
   go_region
   all_goals
    have HO2:=Lib.hid ((HO.out.other (c:=tb+1) (by omega) (j+2) (.int .i64 (I2:Nat))).below (Below.refl (tb+2) _).drew (by omega))
    have HA2:Hid (Own (wo.setCell ⟨tb+1,j+2,none⟩ (.int .i64 (I2:Nat))).drew (tb+1) (aC ls (j+1))):=Lib.hid (by rw[←HST.out];exact (HA.out.set (j+2) (.int .i64 (I2:Nat)) (by rw[aC_len];omega)).below (Below.refl (tb+2) _).drew (by omega))
    have HB2:Hid (Below w.heap.size w (wo.setCell ⟨tb+1,j+2,none⟩ (.int .i64 (I2:Nat))).drew):=Lib.hid ((HB.out.setCell (p:=⟨tb+1,j+2,none⟩) (by show w.heap.size≤tb+1;omega) (.int .i64 (I2:Nat))).drew)
    have hz2:tb+2≤(wo.setCell ⟨tb+1,j+2,none⟩ (.int .i64 (I2:Nat))).drew.heap.size:=by simpa using hz
    clear k0 k1 k2 f2
    generalize (wo.setCell ⟨tb+1,j+2,none⟩ (.int .i64 (I2:Nat))).drew=w9 at*
    go_wp2_with (fail)
    go_roundw
    case rel=>exact⟨j+1,by first|rfl|exact congrArg (Value.int .i64) (by omega),hlt,HO2,HA2,HB2,hz2⟩
    case measure=>simp[intOf]<;>omega
  ·obtain rfl:j=15:=by omega
   have k16:=HA.out.1 16 (.int .i64 (idx ls 16:Nat)) (by rw[aC_get _ _ (by omega),if_pos (by omega)])
   rw[aC_bCs ls] at HA
   have hT:=idx_le ls 16
   obtain⟨T,hT0⟩: ∃z,idx ls 16=z:=⟨_,rfl⟩
   rw[hT0] at k16 hT
   have hTl:T≤16000:=by omega
   have HT0:=Lib.hid hT0
   have hmk:=hmkI T wo (by omega)
   obtain⟨wb,hwb⟩: ∃z:World,z=wo.alloc (.cells (iC (List.replicate T 0)).toArray 3):=⟨_,rfl⟩
   have HLR:Hid (Row wo.heap.size 3 1 wb (.slice (some ⟨wo.heap.size,0,none⟩) T T) T (iC (srt ls 0))):=Lib.hid (by
    rw[hwb]
    unfold srt
    rw[hT0]
    exact Row.lit wo _ (Nat.le_refl _) (by omega) (by rw[iC_len];simp))
   have HA2:Hid (Own wb (tb+1) (bCs ls 0)):=Lib.hid (by rw[hwb];exact HA.out.below ((Below.refl _ _).alloc (Nat.le_refl _) _) (by omega))
   have HB2:Hid (Below w.heap.size w wb):=Lib.hid (by rw[hwb];exact HB.out.alloc HB.out.size _)
   have hzb:tb+2≤wb.heap.size:=by rw[hwb];simp;omega
   have hzo:=HB.out.size
   clear hT hT0
   go_upto_region 8 with (fail)
   rw[←hwb]
   clear hwb hmk k16
   obtain⟨g,hg⟩: ∃z,wo.heap.size=z:=⟨_,rfl⟩
   rw[hg] at HLR hz hzo ⊢
   clear hg
   go_wp2_with (fail)
   go_loopw [34] (fun i wr=> ∃q:Nat,i= .int .i64 q∧q≤n∧Hid (Own wr (tb+1) (bCs ls q))∧Hid (Row g 3 1 wr (.slice (some ⟨g,0,none⟩) T T) T (iC (srt ls q)))∧Hid (Below w.heap.size w wr)∧tb+2≤wr.heap.size) (fun i _=>n-(intOf i).toNat)
   case atStart=>exact⟨0,rfl,Nat.zero_le _,HA2,HLR,HB2,hzb⟩
   case round=>
    clear HA2 HLR HB2 hzb
    obtain⟨q,rfl,hq,HA,HLR,HB,hz2⟩:=hrel
    obtain⟨w5,rfl⟩: ∃z:World,z=wr:=⟨_,rfl⟩
    by_cases hqn:q<n
    ·as_aux_lemma=>
     have d1:decide (q<n)=true:=decide_eq_true hqn
     have d2:decide ((q:Int)<(n:Int))=true:=decide_eq_true (by omega)
     have q1:IntKind.i64.wrap ((q:Int)+1)=(q:Int)+1:=IntWalk.i64_in _ (by omega)
     have hqi:(q:Int)<(n:Int):=by omega
     obtain⟨b,off,rfl,_⟩:=sl_cells (HS.out w5 HB.out) (by omega)
     obtain⟨x,hx⟩: ∃x,ls[q]? =some x:=⟨_,List.getElem?_eq_getElem (by have:=HN.out;omega)⟩
     have k0:=sl_same (HS.out w5 HB.out) (by omega) q _ (iC_get hx)
     have hx15:=H15.out x (List.mem_of_getElem? hx)
     have hlx:len ls q=x:=by unfold len;rw[List.getD_eq_getElem?_getD,hx];rfl
     by_cases h1:1≤x
     rotate_left
     ·obtain rfl:x=0:=by omega
      have HZ:=Lib.hid (bCs_zero ls hx)
      have HSR:Hid (srt ls (q+1)=srt ls q):=Lib.hid (by show (if 1≤len ls q then _ else _)=_;rw[if_neg (by omega)])
      clear hx
      go_wp2_with (fail)
      go_roundw
      case rel=>exact⟨q+1,rfl,hqn,Lib.hid (by rw[←HZ.out];exact HA.out),Lib.hid (by rw[HSR.out];exact HLR.out),HB,hz2⟩
      case measure=>simp[intOf]<;>omega
     have d3:decide ((1:Int)≤(x:Int))=true:=decide_eq_true (by omega)
     have d3':decide (1≤x)=true:=decide_eq_true h1
     have d3'':decide (0<x)=true:=decide_eq_true (by omega)
     have d4:decide ((x:Int)≤15)=true:=decide_eq_true (by omega)
     have d4':decide (x≤15)=true:=decide_eq_true hx15
     have hhas:Has ls q:=⟨by have:=HN.out;omega,by omega⟩
     have hps:=pos_lt ls hhas (by omega)
     rw[HT0.out] at hps
     have hpe:pos ls q=idx ls x+(ls.take q).count x:=by unfold pos rnk;rw[hlx]
     have kx:=HA.out.1 x (.int .i64 (pos ls q:Nat)) (by rw[bCs_get _ _ (by omega),if_neg (by omega),hpe])
     have fx:=HA.out.2 x
     have HBS:=Lib.hid (bCs_step ls hx h1 hx15)
     rw[←hpe] at HBS
     have HSR:Hid (srt ls (q+1)=(srt ls q).set (pos ls q) q):=Lib.hid (by show (if 1≤len ls q then _ else _)=_;rw[if_pos (by omega)])
     obtain⟨P,hP⟩: ∃z,pos ls q=z:=⟨_,rfl⟩
     rw[hP] at hps kx HBS HSR
     obtain⟨y,hy⟩: ∃y,(srt ls q)[P]? =some y:=⟨_,List.getElem?_eq_getElem (by rw[srt_len,HT0.out];exact hps)⟩
     have kp:=sl_same HLR.out.sl (by omega) P _ (iC_get hy)
     rw[Nat.zero_add] at kp
     have fp:=HLR.out.frozenAt P
     have y1:IntKind.i64.wrap (((P:Nat):Int)+1)=((P+1:Nat):Int):=by rw[IntWalk.i64_in _ (by omega)];omega
     obtain⟨P1,hP1⟩: ∃z,P+1=z:=⟨_,rfl⟩
     rw[hP1] at y1 HBS
     have hpi:(P:Int)<(T:Int):=by omega
     have hxi:(x:Int)<17:=by omega
     have HPE:Hid (idx ls x+(ls.take q).count x=P):=Lib.hid (by rw[←hpe];exact hP)
     clear hx hy hlx hhas hpe hP hP1
     go_upto_region 13 with (fail)
     have HA6:=Lib.hid (HA.out.other (c:=g) (by omega) P (.int .i64 (q:Nat)))
     have HL6:Hid (Row g 3 1 (w5.setCell ⟨g,P,none⟩ (.int .i64 (q:Nat))) (.slice (some ⟨g,0,none⟩) T T) T (iC (srt ls (q+1)))):=Lib.hid (by
      rw[HSR.out,←iC_set]
      exact (World.ownsRow.stored HLR.out P (.int .i64 (q:Nat))).1)
     have HB6:=Lib.hid (HB.out.setCell (p:=⟨g,P,none⟩) (by show w.heap.size≤g;omega) (.int .i64 (q:Nat)))
     have hz6:tb+2≤(w5.setCell ⟨g,P,none⟩ (.int .i64 (q:Nat))).heap.size:=by simpa using hz2
     clear kx fx kp fp
     generalize w5.setCell ⟨g,P,none⟩ (.int .i64 (q:Nat))=w6 at*
     have kx:=HA6.out.1 x (.int .i64 (P:Nat)) (by rw[bCs_get _ _ (by omega),if_neg (by omega)];exact congrArg (fun z:Nat=>some (Value.int .i64 (z:Int))) HPE.out)
     have fx:=HA6.out.2 x
     go_wp2_with (fail)
     go_roundw
     case rel=>exact⟨q+1,rfl,hqn,Lib.hid (by rw[←HBS.out];exact HA6.out.set x _ (by rw[bCs_len];omega)),Lib.hid (HL6.out.other (c:=tb+1) (by omega) x _),Lib.hid (HB6.out.setCell (p:=⟨tb+1,x,none⟩) (by show w.heap.size≤tb+1;omega) _),by simpa using hz6⟩
     case measure=>simp[intOf]<;>omega
    ·have d1:decide (q<n)=false:=decide_eq_false hqn
     have d2:decide ((q:Int)<(n:Int))=false:=decide_eq_false (by omega)
     obtain rfl:q=n:=by omega
     go_wp2_with (fail)
     go_ret
     have hsl:(srt ls q).length=T:=by rw[srt_len,HT0.out]
     exact⟨_,srt ls q,rfl,by rw[hsl];exact HLR.out.mono hzo,fun s hs=>srt_at ls H15.out hs q (by have:=hs.1;have:=HN.out;omega) (by have:=HN.out;omega),HB.out⟩
end Go.Proofs.YtmdgeoalamancaaGreatDoor
