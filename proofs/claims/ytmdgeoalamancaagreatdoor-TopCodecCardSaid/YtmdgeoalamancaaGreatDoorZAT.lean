/- symMerge. The stable sort. Lengths of codes: what Make makes, plain; the comparing function. Lengths of codes: Make. -/
import Derived.Test.YtmdgeoalamancaaGreatDoorZAS
import Derived.Test.YtmdgeoalamancaaGreatDoorZAR
set_option maxRecDepth 100000
set_option linter.unusedVariables false
set_option linter.unusedSimpArgs false
namespace Go.Proofs.YtmdgeoalamancaaGreatDoor
open Go.RowKit
variable {zz:Nat}
def HalfOK (le:El zz→El zz→Prop) (blk n a m b gc cap:Nat) (cb:Array Value) (f:Nat→El zz) (w:World):Prop:=
 a<m→m<b→Calls Tryz.prog 217 #[.slice (some ⟨blk,0,none⟩) n cap,.int .i64 (a:Nat),.int .i64 (m:Nat),.int .i64 (b:Nat),.func (.func gc) #[] cb] w (InsOut le f blk n a b w)
set_option maxHeartbeats 8000000 in
theorem sym_rec (blk n cap a m b gc:Nat) (cb:Array Value) (cf:El zz→El zz→Int) (le:El zz→El zz→Prop) (f:Nat→El zz) (w:World) (hA:Arr w blk n f) (hn:n≤1000000) (h1:a<m) (h2:m<b) (hb:b≤n)
  (o:Ord le) (hcf: ∀x y,cf x y<0↔ ¬le y x) (hl:Srt le f a m) (hr:Srt le f m b) (hC:CmpOK gc cb cf blk w) (heg: ∀args W,(callFunc gc args).run Tryz.prog W= .ok (.enter gc args) W) (hone:m≠a+1) (hnot:b≠m+1)
  (IH: ∀(a' m' b':Nat) (f':Nat→El zz) (w':World),b'-a'<b-a→b'≤n→Arr w' blk n f'→Gr blk w w'→Srt le f' a' m'→Srt le f' m' b'→HalfOK le blk n a' m' b' gc cap cb f' w'):
  Calls Tryz.prog 217 #[.slice (some ⟨blk,0,none⟩) n cap,.int .i64 (a:Nat),.int .i64 (m:Nat),.int .i64 (b:Nat),.func (.func gc) #[] cb] w (InsOut le f blk n a b w):=by
 have HA:=Lib.hid hA
 have HC:=Lib.hid hC
 have HO:=Lib.hid o
 have HF:=Lib.hid hcf
 have HIH:=Lib.hid IH
 have d0:(((m:Int)-(a:Int))==1)=false:=by simp;omega
 have d01:(((b:Int)-(m:Int))==1)=false:=by simp;omega
 have HL:=Lib.hid hl
 have HR:=Lib.hid hr
 obtain⟨mid,hmid⟩: ∃z,(a+b)/2=z:=⟨_,rfl⟩
 have hmid':((a:Int)+(b:Int))/2=(mid:Int):=by omega
 have HMID:=Lib.hid hmid.symm
 have HMID':=Lib.hid hmid'
 have hmb:mid<n:=by omega
 clear hA hC o hcf hl hr hone hnot IH hmid hmid'
 go_enter Tryz.func217,Tryz.ntmps217
 go_upto_region 25 with (fail)
 rw[HMID'.out]
 clear HMID' d0 d01
 have HK:=Lib.hid (cut_bd HMID.out h1 h2)
 have q4:IntKind.i64.wrap ((mid:Int)+(m:Int))=((mid+m:Nat):Int):=by rw[IntWalk.i64_in _ (by omega)];omega
 obtain⟨N,hN⟩: ∃z,mid+m=z:=⟨_,rfl⟩
 rw[hN] at q4
 have HN:=Lib.hid hN
 have hNb:N≤2000000∧m≤N∧mid≤N:=by omega
 clear hN
 go_upto_if 140 with (fail)
 go_cut [20,21] (fun x y wx=> ∃s r:Nat,x= .int .i64 s∧y= .int .i64 r∧s≤r∧r≤m∧Hid (IsCut le f m (cutLo a m b mid) (cutHi m mid) (mid+m) s r)∧w=wx)
 case first=>
  as_aux_lemma=>
   have hk:=HK.out
   by_cases hc:mid<m
   ·have d1:decide ((mid:Int)<(m:Int))=true:=decide_eq_true (by omega)
    have d3:decide (mid<m)=true:=decide_eq_true (by omega)
    have e1:N-b=cutLo a m b mid:=by have:=HN.out;omega
    have e2:mid=cutHi m mid:=by omega
    have q5:IntKind.i64.wrap ((N:Int)-(b:Int))=((N-b:Nat):Int):=by rw[IntWalk.i64_in _ (by omega)];have:=HN.out;omega
    have HS:Hid (IsCut le f m (cutLo a m b mid) (cutHi m mid) (mid+m) (N-b) mid):=Lib.hid (by
     rw[e1]
     conv=>rhs;rw[e2]
     exact⟨Nat.le_refl _,by omega,Nat.le_refl _,fun c c1 c2=>by omega,fun c c1 c2=>by omega⟩)
    have b1:N-b≤mid:=by omega
    have b2:mid≤m:=by omega
    clear hk e1 e2
    generalize N-b=s0 at*
    go_wp2_with (fail)
    go_meet
    exact⟨s0,mid,rfl,rfl,b1,b2,HS,rfl⟩
   ·have d1:decide ((mid:Int)<(m:Int))=false:=decide_eq_false (by omega)
    have d3:decide (mid<m)=false:=decide_eq_false (by omega)
    have e1:a=cutLo a m b mid:=by omega
    have e2:m=cutHi m mid:=by omega
    have HS:Hid (IsCut le f m (cutLo a m b mid) (cutHi m mid) (mid+m) a m):=Lib.hid (by
     rw[←e1,←e2]
     exact⟨Nat.le_refl _,by omega,Nat.le_refl _,fun c c1 c2=>by omega,fun c c1 c2=>by omega⟩)
    clear hk e1 e2
    go_wp2_with (fail)
    go_meet
    exact⟨a,m,rfl,rfl,by omega,Nat.le_refl _,HS,rfl⟩
 case rest=>
 obtain⟨s0,r0,rfl,rfl,sr0,rm0,HS,rfl⟩:=hcut
 have q5:IntKind.i64.wrap ((N:Int)-1)=(N:Int)-1:=IntWalk.i64_in _ (by omega)
 clear q4
 go_wp2_with (fail)
 go_loopw [20,21] (fun x y wr=> ∃s r:Nat,x= .int .i64 s∧y= .int .i64 r∧s≤r∧r≤m∧Hid (IsCut le f m (cutLo a m b mid) (cutHi m mid) (mid+m) s r)∧Hid (Arr wr blk n f)∧Hid (Gr blk w wr)) (fun x y _=>(intOf y-intOf x).toNat)
 case atStart=>exact⟨s0,r0,rfl,rfl,sr0,rm0,HS,HA,Lib.hid (Gr.refl _ _)⟩
 case round=>
  clear HA HS sr0 rm0
  obtain⟨s,r,rfl,rfl,sr,rm,HS,HA,HG⟩:=hrel
  obtain⟨wo,rfl⟩: ∃z:World,z=wr:=⟨_,rfl⟩
  by_cases hlt:s<r
  ·as_aux_lemma=>
   have d1:decide (s<r)=true:=decide_eq_true hlt
   have d2:decide ((s:Int)<(r:Int))=true:=decide_eq_true (by omega)
   obtain⟨c,hh⟩: ∃c,(s+r)/2=c:=⟨_,rfl⟩
   have hh':((s:Int)+(r:Int))/2=(c:Int):=by omega
   have h3:s≤c∧c<r:=by omega
   have hk:=HK.out
   have hs1:=HS.out.l1
   have hs3:=HS.out.l3
   have hNN:=HN.out
   obtain⟨pc,hpc⟩: ∃z,N-1-c=z:=⟨_,rfl⟩
   have b1:pc<n:=by omega
   have b2:c<n:=by omega
   have b3:(pc:Int)<(n:Int):=by omega
   have b4:(c:Int)<(n:Int):=by omega
   have q6:IntKind.i64.wrap ((N:Int)-1-(c:Int))=(pc:Int):=by rw[IntWalk.i64_in _ (by omega)];omega
   have q7:IntKind.i64.wrap ((c:Int)+1)=((c+1:Nat):Int):=by rw[IntWalk.i64_in _ (by omega)];omega
   have HPC:Hid (pc=mid+m-1-c):=Lib.hid (by omega)
   have HH':=Lib.hid hh'
   clear hh hh' hk hs1 hs3 hNN hpc
   go_upto_region 35 with (fail)
   rw[HH'.out]
   clear HH'
   refine Mono.region_below (by kernel_rfl) (by kernel_rfl) (by kernel_rfl) ?_
   refine Mono.rgl_val (v:= ?vp0) rfl Mono.rr (fun ρ act W hR hd hf=> ?hp0) ?_
   case hp0=>
    have e4:=Mono.init_get hf (t:=4) (by kernel_rfl)
    clear hd hf
    (go_simp;try with_reducible rfl)
   refine Mono.rgl_val (v:= ?vp1) rfl Mono.rr (fun ρ act W hR hd hf=> ?hp1) ?_
   case hp1=>
    have e0:=Mono.init_get hf (t:=0) (by kernel_rfl)
    clear hd hf
    (go_simp;try with_reducible rfl)
   refine Mono.rgl_val (v:= ?vp2) rfl Mono.rr (fun ρ act W hR hd hf=> ?hp2) ?_
   case hp2=>
    have e22:=Mono.init_get hf (t:=22) (by kernel_rfl)
    clear hd hf
    (go_simp;try with_reducible rfl)
   refine Mono.rgl_val (v:= ?vp3) rfl Mono.rr (fun ρ act W hR hd hf=> ?hp3) ?_
   case hp3=>
    have e23:=Mono.init_get hf (t:=23) (by kernel_rfl)
    clear hd hf
    (go_simp;try with_reducible rfl)
   refine Mono.rgl_val (v:= ?vp4) rfl Mono.rr (fun ρ act W hR hd hf=> ?hp4) ?_
   case hp4=>
    have e160:=Mono.dep_val hd hf (t:=160) (k:=2) (by kernel_rfl) rfl
    have e161:=Mono.dep_val hd hf (t:=161) (k:=3) (by kernel_rfl) rfl
    clear hd hf
    (go_simp;try with_reducible rfl)
   refine Mono.rgl_val (v:= ?vp5) rfl Mono.rr (fun ρ act W hR hd hf=> ?hp5) ?_
   case hp5=>
    have e159:=Mono.dep_val hd hf (t:=159) (k:=1) (by kernel_rfl) rfl
    have e162:=Mono.dep_val hd hf (t:=162) (k:=4) (by kernel_rfl) rfl
    clear hd hf
    (go_simp;try with_reducible rfl)
   refine Mono.rgl_val (v:= ?vp6) rfl Mono.rr (fun ρ act W hR hd hf=> ?hp6) ?_
   case hp6=>
    have e163:=Mono.dep_val hd hf (t:=163) (k:=5) (by kernel_rfl) rfl
    have hk:=(HA.out.up hR).cell pc b1
    clear hd hf
    (go_simp;try with_reducible rfl)
   refine Mono.rgl_val (v:= ?vp7) rfl Mono.rr (fun ρ act W hR hd hf=> ?hp7) ?_
   case hp7=>
    have e0:=Mono.init_get hf (t:=0) (by kernel_rfl)
    clear hd hf
    (go_simp;try with_reducible rfl)
   refine Mono.rgl_val (v:= ?vp8) rfl Mono.rr (fun ρ act W hR hd hf=> ?hp8) ?_
   case hp8=>
    have e23:=Mono.init_get hf (t:=23) (by kernel_rfl)
    clear hd hf
    (go_simp;try with_reducible rfl)
   refine Mono.rgl_val (v:= ?vp9) rfl Mono.rr (fun ρ act W hR hd hf=> ?hp9) ?_
   case hp9=>
    have e165:=Mono.dep_val hd hf (t:=165) (k:=7) (by kernel_rfl) rfl
    have e166:=Mono.dep_val hd hf (t:=166) (k:=8) (by kernel_rfl) rfl
    clear hd hf
    (go_simp;try with_reducible rfl)
   refine Mono.rgl_val (v:= ?vp10) rfl Mono.rr (fun ρ act W hR hd hf=> ?hp10) ?_
   case hp10=>
    have e167:=Mono.dep_val hd hf (t:=167) (k:=9) (by kernel_rfl) rfl
    have hk:=(HA.out.up hR).cell c b2
    clear hd hf
    (go_simp;try with_reducible rfl)
   refine Mono.rgl_call (fun x _=>x= .int .i64 (cf (f pc) (f c))) rfl Mono.rr (fun _ _ _ h _=>h) (fun ρ act W hR hd hf=> ?hp11) ?_
   case hp11=>
    have e158:=Mono.dep_val hd hf (t:=158) (k:=0) (by kernel_rfl) rfl
    have e164:=Mono.dep_val hd hf (t:=164) (k:=6) (by kernel_rfl) rfl
    have e168:=Mono.dep_val hd hf (t:=168) (k:=10) (by kernel_rfl) rfl
    clear hd hf
    refine⟨_,_,by go_simp;first|rfl|exact⟨rfl,rfl⟩,?_⟩
    exact (HC.out W (HG.out.up hR) (f pc) (f c)).mono (by rintro e w' ⟨rfl,hb⟩;exact⟨_,rfl,hb,rfl⟩)
   refine Mono.rgl_val (v:= ?vp12) rfl Mono.rr (fun ρ act W hR hd hf=> ?hp12) ?_
   case hp12=>
    have e169:=Mono.dep_val hd hf (t:=169) (k:=11) (by kernel_rfl) rfl
    clear hd hf
    (go_simp;try with_reducible rfl)
   refine Mono.rgl_val (v:= ?vp13) rfl Mono.rr (fun ρ act W hR hd hf=> ?hp13) ?_
   case hp13=>
    have e170:=Mono.dep_val hd hf (t:=170) (k:=12) (by kernel_rfl) rfl
    clear hd hf
    (go_simp;try with_reducible rfl)
   refine Mono.rgl_done rfl (fun ρ W hR ht=> ?_)
   obtain⟨dp13,dp12,dp11,dp10,dp9,dp8,dp7,dp6,dp5,dp4,dp3,dp2,dp1,dp0,_⟩:=ht
   simp only[List.length_cons,List.length_nil,Nat.reduceAdd] at dp0 dp1 dp2 dp3 dp4 dp5 dp6 dp7 dp8 dp9 dp10 dp11 dp12 dp13
   simp only[Mono.putAll,Nat.reduceAdd,dp0,dp1,dp2,dp3,dp4,dp5,dp6,dp7,dp8,dp9,dp10,dp11,dp12,dp13,Act.put,List.setIfInBounds_toArray,List.set_cons_zero,List.set_cons_succ]
   clear dp0 dp1 dp2 dp3 dp4 dp5 dp6 dp7 dp8 dp9 dp10 dp11 dp12 dp13
   have HA:=Lib.hid (HA.out.up hR)
   have HG:=Lib.hid (HG.out.up hR)
   clear hR
   cases hd:decide (cf (f pc) (f c)<0)
   ·have HS2:=Lib.hid (IsCut.yes HO.out HMID.out h1 h2 HL.out HR.out HS.out h3.1 h3.2 (by rw[←HPC.out];exact Classical.byContradiction fun q=>of_decide_eq_false hd ((HF.out _ _).2 q)))
    clear hd
    go_wp2_with (fail)
    go_roundw
    case rel=>exact⟨c+1,r,rfl,rfl,by omega,rm,HS2,HA,HG⟩
    case measure=>simp[intOf]<;>omega
   ·have HS2:=Lib.hid (IsCut.no HO.out HMID.out h1 h2 HL.out HR.out HS.out h3.1 h3.2 (by rw[←HPC.out];exact HO.out.not ((HF.out _ _).1 (of_decide_eq_true hd))))
    clear hd
    go_wp2_with (fail)
    go_roundw
    case rel=>exact⟨s,c,rfl,rfl,h3.1,by omega,HS2,HA,HG⟩
    case measure=>simp[intOf]<;>omega
  ·have d1:decide (s<r)=false:=decide_eq_false hlt
   have d2:decide ((s:Int)<(r:Int))=false:=decide_eq_false (by omega)
   obtain rfl:s=r:=by omega
   obtain⟨hb8,hhv⟩:=IsCut.halves HO.out HMID.out h1 h2 HL.out HR.out HS.out
   have hNN:=HN.out
   obtain⟨en,hen⟩: ∃z,mid+m-s=z:=⟨_,rfl⟩
   rw[hen] at hb8 hhv
   have q6:IntKind.i64.wrap ((N:Int)-(s:Int))=(en:Int):=by rw[IntWalk.i64_in _ (by omega)];omega
   obtain⟨g1,g2,g3,g4,g5,g6,g7,g8⟩:=hb8
   have hes:Sw a b f (rotF f s m en):=rotF_sw' f a b s m en g1 g2 g4 g5
   have hrl:=fun hc:m=s=>rotF_left f s m en hc
   have hrr:=fun hc:m=en=>rotF_right f s m en hc g2
   have HV:=Lib.hid hhv
   have HES:=Lib.hid hes
   have HRL:=Lib.hid hrl
   have HRR:=Lib.hid hrr
   have HROT:=Lib.hid (fun c1 c2=>rotate_any blk n cap s m en f (.func (.func gc) #[] cb) wo HA.out hn c1 c2 (by omega))
   clear hNN hen hhv hes hrl hrr HL HR HS HN HK hlt HMID HC d1 d2
   generalize rotF f s m en=h at*
   go_upto_region 39 with (fail)
   go_cut [185] (fun v wx=>v= .bool (decide (s<m)&&decide (m<en))∧wo=wx)
   case first=>
    as_aux_lemma=>
     cases hc:decide (s<m)
     ·have d3:decide ((s:Int)<(m:Int))=false:=decide_eq_false (by have:=of_decide_eq_false hc;omega)
      go_wp2_with (fail)
      go_meet
      exact⟨by rw[hc];rfl,rfl⟩
     ·have d3:decide ((s:Int)<(m:Int))=true:=decide_eq_true (by have:=of_decide_eq_true hc;omega)
      cases hc2:decide (m<en)
      ·have d4:decide ((m:Int)<(en:Int))=false:=decide_eq_false (by have:=of_decide_eq_false hc2;omega)
       go_wp2_with (fail)
       go_meet
       exact⟨by rw[hc,hc2];rfl,rfl⟩
      ·have d4:decide ((m:Int)<(en:Int))=true:=decide_eq_true (by have:=of_decide_eq_true hc2;omega)
       go_wp2_with (fail)
       go_meet
       exact⟨by rw[hc,hc2];rfl,rfl⟩
   case rest=>
   obtain⟨rfl,rfl⟩:=hcut
   go_upto_if 185 with (fail)
   go_cut [20] (fun v wx=> ∃z:World,z=wx∧v= .int .i64 (s:Nat)∧Hid (Arr wx blk n h)∧Hid (Gr blk w wx))
   case first=>
    as_aux_lemma=>
     by_cases hc:s<m∧m<en
     ·have e1:(decide (s<m)&&decide (m<en))=true:=by simp[hc.1,hc.2]
      rw[e1]
      have HW:=Lib.hid (HROT.out hc.1 hc.2)
      clear e1 hc
      go_wp2_with (fail)
      refine HW.out.mono ?_
      rintro e w1 ⟨rfl,ha,hg⟩
      have HA:=Lib.hid ha
      have HG:=Lib.hid (HG.out.trans hg)
      clear ha hg
      go_wp2_with (fail)
      go_meet
      exact⟨_,rfl,rfl,HA,HG⟩
     ·have e1:(decide (s<m)&&decide (m<en))=false:=by
       rw[Bool.and_eq_false_iff]
       by_cases c:s<m
       ·right;exact decide_eq_false (by omega)
       ·left;exact decide_eq_false c
      rw[e1]
      have HA2:Hid (Arr wo blk n h):=Lib.hid (by
       by_cases c:s<m
       ·rw[HRR.out (by omega)];exact HA.out
       ·rw[HRL.out (by omega)];exact HA.out)
      clear e1 hc
      go_wp2_with (fail)
      go_meet
      exact⟨_,rfl,rfl,HA2,HG⟩
   case rest=>
   clear HA HG HROT HRL HRR
   obtain⟨w3,rfl,rfl,HA,HG⟩:=hcut
   have HLEFT:=Lib.hid (HIH.out a s mid h w3 (by omega) (by omega) HA.out HG.out HV.out.l1 HV.out.l2)
   go_upto_region 41 with (fail)
   go_cut [199] (fun v wx=>v= .bool (decide (a<s)&&decide (s<mid))∧w3=wx)
   case first=>
    as_aux_lemma=>
     cases hc:decide (a<s)
     ·have d3:decide ((a:Int)<(s:Int))=false:=decide_eq_false (by have:=of_decide_eq_false hc;omega)
      go_wp2_with (fail)
      go_meet
      exact⟨by rw[hc];rfl,rfl⟩
     ·have d3:decide ((a:Int)<(s:Int))=true:=decide_eq_true (by have:=of_decide_eq_true hc;omega)
      cases hc2:decide (s<mid)
      ·have d4:decide ((s:Int)<(mid:Int))=false:=decide_eq_false (by have:=of_decide_eq_false hc2;omega)
       go_wp2_with (fail)
       go_meet
       exact⟨by rw[hc,hc2];rfl,rfl⟩
      ·have d4:decide ((s:Int)<(mid:Int))=true:=decide_eq_true (by have:=of_decide_eq_true hc2;omega)
       go_wp2_with (fail)
       go_meet
       exact⟨by rw[hc,hc2];rfl,rfl⟩
   case rest=>
   obtain⟨rfl,rfl⟩:=hcut
   go_upto_if 199 with (fail)
   go_cut [20] (fun v wx=> ∃z:World,z=wx∧v= .int .i64 (s:Nat)∧ ∃h',Hid (Arr wx blk n h')∧Hid (Gr blk w wx)∧Hid (Sw a mid h h')∧Hid (Srt le h' a mid))
   case first=>
    as_aux_lemma=>
     by_cases hc:a<s∧s<mid
     ·have e1:(decide (a<s)&&decide (s<mid))=true:=by simp[hc.1,hc.2]
      rw[e1]
      have HW:=Lib.hid (HLEFT.out hc.1 hc.2)
      clear e1 hc
      go_wp2_with (fail)
      refine HW.out.mono ?_
      rintro e w1 ⟨rfl,⟨h',hs',ht',ha'⟩,hg⟩
      have HA:=Lib.hid ha'
      have HG:=Lib.hid (HG.out.trans hg)
      have HS':=Lib.hid hs'
      have HT':=Lib.hid ht'
      clear ha' hg hs' ht'
      go_wp2_with (fail)
      go_meet
      exact⟨_,rfl,rfl,h',HA,HG,HS',HT'⟩
     ·have e1:(decide (a<s)&&decide (s<mid))=false:=by
       rw[Bool.and_eq_false_iff]
       by_cases c:a<s
       ·right;exact decide_eq_false (by omega)
       ·left;exact decide_eq_false c
      rw[e1]
      have HT':Hid (Srt le h a mid):=Lib.hid (by
       by_cases c:a<s
       ·have:=HV.out.l1;rwa [show s=mid by omega] at this
       ·have:=HV.out.l2;rwa [show s=a by omega] at this)
      clear e1 hc
      go_wp2_with (fail)
      go_meet
      exact⟨_,rfl,rfl,h,HA,HG,Lib.hid .refl,HT'⟩
   case rest=>
   clear HA HG HLEFT
   obtain⟨w5,rfl,rfl,h1',HA,HG,HS1,HT1⟩:=hcut
   have HE:Hid (∀k,mid≤k→h1' k=h k):=Lib.hid (fun k hk=>HS1.out.out k (.inr hk))
   have HRIGHT:=Lib.hid (HIH.out mid en b h1' w5 (by omega) (by omega) HA.out HG.out (HV.out.r1.congr fun k k1 _=>HE.out k k1) (HV.out.r2.congr fun k k1 _=>HE.out k (by omega)))
   go_upto_region 43 with (fail)
   go_cut [213] (fun v wx=>v= .bool (decide (mid<en)&&decide (en<b))∧w5=wx)
   case first=>
    as_aux_lemma=>
     cases hc:decide (mid<en)
     ·have d3:decide ((mid:Int)<(en:Int))=false:=decide_eq_false (by have:=of_decide_eq_false hc;omega)
      go_wp2_with (fail)
      go_meet
      exact⟨by rw[hc];rfl,rfl⟩
     ·have d3:decide ((mid:Int)<(en:Int))=true:=decide_eq_true (by have:=of_decide_eq_true hc;omega)
      cases hc2:decide (en<b)
      ·have d4:decide ((en:Int)<(b:Int))=false:=decide_eq_false (by have:=of_decide_eq_false hc2;omega)
       go_wp2_with (fail)
       go_meet
       exact⟨by rw[hc,hc2];rfl,rfl⟩
      ·have d4:decide ((en:Int)<(b:Int))=true:=decide_eq_true (by have:=of_decide_eq_true hc2;omega)
       go_wp2_with (fail)
       go_meet
       exact⟨by rw[hc,hc2];rfl,rfl⟩
   case rest=>
   obtain⟨rfl,rfl⟩:=hcut
   by_cases hc:mid<en∧en<b
   ·as_aux_lemma=>
    have e1:(decide (mid<en)&&decide (en<b))=true:=by simp[hc.1,hc.2]
    rw[e1]
    have HW:=Lib.hid (HRIGHT.out hc.1 hc.2)
    clear e1 hc
    go_wp2_with (fail)
    refine HW.out.mono ?_
    rintro e w1 ⟨rfl,⟨h',hs',ht',ha'⟩,hg⟩
    have HA:=Lib.hid ha'
    have HG:=Lib.hid (HG.out.trans hg)
    have HS':=Lib.hid hs'
    have HT':=Lib.hid ht'
    clear ha' hg hs' ht'
    go_wp2_with (fail)
    go_end0
    exact InsOut.mk (HES.out.trans ((HS1.out.mono (Nat.le_refl _) (by omega)).trans (HS'.out.mono (by omega) (Nat.le_refl _)))) (HV.out.done (by omega) (by omega) HS1.out HT1.out HS'.out HT'.out) HA.out HG.out
   ·have e1:(decide (mid<en)&&decide (en<b))=false:=by
     rw[Bool.and_eq_false_iff]
     by_cases c:mid<en
     ·right;exact decide_eq_false (by omega)
     ·left;exact decide_eq_false c
    rw[e1]
    have HT':Hid (Srt le h1' mid b):=Lib.hid (by
     by_cases c:mid<en
     ·have:=HV.out.r1;rw[show en=b by omega] at this;exact this.congr fun k k1 _=>HE.out k k1
     ·have:=HV.out.r2;rw[show en=mid by omega] at this;exact this.congr fun k k1 _=>HE.out k k1)
    clear e1 hc
    go_wp2_with (fail)
    go_end0
    exact InsOut.mk (HES.out.trans (HS1.out.mono (Nat.le_refl _) (by omega))) (HV.out.done (by omega) (by omega) HS1.out HT1.out .refl HT'.out) HA.out HG.out
end Go.Proofs.YtmdgeoalamancaaGreatDoor
namespace Go.Proofs.YtmdgeoalamancaaGreatDoor
open Go.RowKit
variable {zz:Nat}
theorem symMerge_all (gc:Nat) (cb:Array Value) (cf:El zz→El zz→Int) (le:El zz→El zz→Prop) (o:Ord le) (hcf: ∀x y,cf x y<0↔ ¬le y x) (heg: ∀args W,(callFunc gc args).run Tryz.prog W= .ok (.enter gc args) W) (blk n cap:Nat) (hn:n≤1000000) (w0:World) (hC:CmpOK gc cb cf blk w0):
  ∀(N a m b:Nat) (f:Nat→El zz) (w:World),b-a≤N→b≤n→Arr w blk n f→Gr blk w0 w→Srt le f a m→Srt le f m b→HalfOK le blk n a m b gc cap cb f w
 |0,a,m,b,f,w,hN,hb,hA,hG,hl,hr=>fun h1 h2=>by omega
 |N+1,a,m,b,f,w,hN,hb,hA,hG,hl,hr=>fun h1 h2=>by
  by_cases c1:m=a+1
  ·exact sym_one blk n cap a m b gc cb cf le f w hA hn h1 h2 hb o hcf hl hr (hC.up hG) heg c1
  ·by_cases c2:b=m+1
   ·exact sym_last blk n cap a m b gc cb cf le f w hA hn h1 h2 hb o hcf hl hr (hC.up hG) heg c2 c1
   ·exact sym_rec blk n cap a m b gc cb cf le f w hA hn h1 h2 hb o hcf hl hr (hC.up hG) heg c1 c2
     (fun a' m' b' f' w' h3 h4 h5 h6 h7 h8=>symMerge_all gc cb cf le o hcf heg blk n cap hn w0 hC N a' m' b' f' w' (by omega) h4 h5 (hG.trans h6) h7 h8)
set_option maxHeartbeats 8000000 in
theorem stable_any (blk n cap gc:Nat) (cb:Array Value) (cf:El zz→El zz→Int) (le:El zz→El zz→Prop) (f:Nat→El zz) (w:World) (hA:Arr w blk n f) (hn:n≤100000)
  (o:Ord le) (hcf: ∀x y,cf x y<0↔ ¬le y x) (hC:CmpOK gc cb cf blk w) (heg: ∀args W,(callFunc gc args).run Tryz.prog W= .ok (.enter gc args) W):
  Calls Tryz.prog 210 #[.slice (some ⟨blk,0,none⟩) n cap,.int .i64 (n:Nat),.func (.func gc) #[] cb] w (InsOut le f blk n 0 n w):=by
 have HA:=Lib.hid hA
 have HI:=Lib.hid (fun (a b:Nat) (g:Nat→El zz) (W:World) (h1:a≤b) (h2:b≤n) (h3:Arr W blk n g) (h4:Gr blk w W)=>insertion_any blk n cap a b gc cb cf le (fun _ _=>True) g W h3 (by omega) h1 h2 o (fun x y _=>hcf x y) (fun _ _ _ _ _=>trivial) (hC.up h4) heg)
 have HM:=Lib.hid (fun (a m b:Nat) (g:Nat→El zz) (W:World) (h2:b≤n) (h3:Arr W blk n g) (h4:Gr blk w W) (h5:Srt le g a m) (h6:Srt le g m b)=>symMerge_all gc cb cf le o hcf heg blk n cap (by omega) w hC (b-a) a m b g W (Nat.le_refl _) h2 h3 h4 h5 h6)
 clear hA hC o hcf
 go_enter Tryz.func210,Tryz.ntmps210
 go_wp2_with (fail)
 go_loopw [7,8] (fun x y wr=> ∃(a:Nat) (g:Nat→El zz),x= .int .i64 a∧y= .int .i64 ((a+20:Nat):Int)∧a≤n∧Hid (RunsP le g 20 n a)∧Hid (Sw 0 n f g)∧Hid (Arr wr blk n g)∧Hid (Gr blk w wr)) (fun x _ _=>n+20-(intOf x).toNat)
 case atStart=>exact⟨0,f,rfl,rfl,by omega,Lib.hid .nil,Lib.hid .refl,HA,Lib.hid (Gr.refl _ _)⟩
 case round=>
  clear HA
  obtain⟨a,g,rfl,rfl,ha,HP,HS,HA,HG⟩:=hrel
  obtain⟨wo,rfl⟩: ∃z:World,z=wr:=⟨_,rfl⟩
  by_cases hlt:a+20≤n
  ·as_aux_lemma=>
   have d1:decide (((a+20:Nat):Int)≤(n:Int))=true:=decide_eq_true (by omega)
   have d2:decide ((a:Int)+20≤(n:Int))=true:=decide_eq_true (by omega)
   have q1:IntKind.i64.wrap (((a+20:Nat):Int)+20)=((a+20+20:Nat):Int):=by rw[IntWalk.i64_in _ (by omega)];omega
   have HW:=Lib.hid (HI.out a (a+20) g wo (by omega) hlt HA.out HG.out)
   have ha2:a+20+20≤200000:=by omega
   obtain⟨b,hb⟩: ∃b,a+20=b:=⟨_,rfl⟩
   have HBB:=Lib.hid hb
   rw[hb] at d1 q1 HW hlt ha2 ⊢
   clear hb d2
   have d3:b≤n:=hlt
   go_wp2_with (fail)
   refine HW.out.mono ?_
   rintro e w1 ⟨rfl,⟨g',hs,ht,ha'⟩,hg⟩
   have HA:=Lib.hid ha'
   have HG:=Lib.hid (HG.out.trans hg)
   have HP2:Hid (RunsP le g' 20 n b):=Lib.hid (by
    have h1:=HP.out.congr (g':=g') fun k hk=>hs.out k (.inl hk)
    have h2:=ht
    rw[←HBB.out] at h2 ⊢
    exact .snoc a h1 (by have:=HBB.out;omega) h2)
   have HS2:Hid (Sw 0 n f g'):=Lib.hid (HS.out.trans (hs.mono (Nat.zero_le _) hlt))
   have hba:a<b:=by have:=HBB.out;omega
   clear ha' hg hs ht HW
   go_wp2_with (fail)
   go_roundw
   case rel=>exact⟨b,g',rfl,rfl,hlt,HP2,HS2,HA,HG⟩
   case measure=>simp[intOf]<;>omega
  ·have d1:decide (((a+20:Nat):Int)≤(n:Int))=false:=decide_eq_false (by omega)
   have d3: ¬(a+20≤n):=hlt
   have HW:=Lib.hid (HI.out a n g wo ha (Nat.le_refl _) HA.out HG.out)
   obtain⟨b,hb⟩: ∃b,a+20=b:=⟨_,rfl⟩
   have HBB:=Lib.hid hb
   rw[hb] at d1 hlt d3 ⊢
   clear hb
   go_wp2_with (fail)
   refine HW.out.mono ?_
   rintro e w1 ⟨rfl,⟨g',hs,ht,ha'⟩,hg⟩
   have HA1:=Lib.hid ha'
   have HG1:=Lib.hid (HG.out.trans hg)
   have HR1:Hid (Runs le g' 20 n 0):=Lib.hid ((HP.out.congr (g':=g') fun k hk=>hs.out k (.inl hk)).app (.last a (by have:=HBB.out;omega) ht))
   have HS1:Hid (Sw 0 n f g'):=Lib.hid (HS.out.trans (hs.mono (Nat.zero_le _) (Nat.le_refl _)))
   clear ha' hg hs ht HW HA HG HP HS d1 d3 hlt HBB HI
   go_wp2_with (fail)
   go_loopw [6,7,8,9] (fun x _ _ _ wr=> ∃(bs:Nat) (g:Nat→El zz),x= .int .i64 bs∧20≤bs∧bs≤200000∧Hid (Runs le g bs n 0)∧Hid (Sw 0 n f g)∧Hid (Arr wr blk n g)∧Hid (Gr blk w wr)) (fun x _ _ _ _=>n-(intOf x).toNat)
   case atStart=>exact⟨20,g',rfl,Nat.le_refl _,by omega,HR1,HS1,HA1,HG1⟩
   case round=>
    clear HA1 HG1 HR1 HS1
    obtain⟨bs,g1,rfl,hb1,hb2,HR,HS,HA,HG⟩:=hrel
    obtain⟨w2,rfl⟩: ∃z:World,z=wr:=⟨_,rfl⟩
    by_cases hlt:bs<n
    rotate_left
    ·have d1:decide ((bs:Int)<(n:Int))=false:=decide_eq_false (by omega)
     have d2:decide (bs<n)=false:=decide_eq_false hlt
     go_wp2_with (fail)
     go_end0
     exact InsOut.mk HS.out (HR.out.one (by omega)) HA.out HG.out
    have d1:decide ((bs:Int)<(n:Int))=true:=decide_eq_true (by omega)
    have d2:decide (bs<n)=true:=decide_eq_true hlt
    have q1:IntKind.i64.wrap (2*(bs:Int))=((2*bs:Nat):Int):=by rw[IntWalk.i64_in _ (by omega)];omega
    have q2:IntKind.i64.wrap ((bs:Int)*2)=((2*bs:Nat):Int):=by rw[IntWalk.i64_in _ (by omega)];omega
    obtain⟨b2,hb2'⟩: ∃z,2*bs=z:=⟨_,rfl⟩
    have HB2:=Lib.hid hb2'
    rw[hb2'] at q1 q2
    have hb2l:b2≤200000∧bs<b2:=by omega
    clear hb2'
    go_wp2_with (fail)
    go_loopw [7,8] (fun x y wr=> ∃(a:Nat) (g:Nat→El zz),x= .int .i64 a∧y= .int .i64 ((a+b2:Nat):Int)∧a≤n∧Hid (RunsP le g b2 n a)∧Hid (Runs le g bs n a)∧Hid (Sw 0 n f g)∧Hid (Arr wr blk n g)∧Hid (Gr blk w wr)) (fun x _ _=>n+b2-(intOf x).toNat)
    case atStart=>exact⟨0,g1,rfl,by simp,by omega,Lib.hid .nil,HR,HS,HA,HG⟩
    case round=>
     clear HA HS HG HR
     obtain⟨a,g,rfl,rfl,ha,HP,HR,HS,HA,HG⟩:=hrel
     obtain⟨w3,rfl⟩: ∃z:World,z=wr:=⟨_,rfl⟩
     obtain⟨b,hb⟩: ∃b,a+b2=b:=⟨_,rfl⟩
     have HBB:=Lib.hid hb
     rw[hb]
     have q3:IntKind.i64.wrap ((a:Int)+(bs:Int))=((a+bs:Nat):Int):=by rw[IntWalk.i64_in _ (by omega)];omega
     have q4:IntKind.i64.wrap ((b:Int)+(b2:Int))=((b+b2:Nat):Int):=by rw[IntWalk.i64_in _ (by omega)];omega
     have hab:a<b:=by omega
     obtain⟨m,hm⟩: ∃m,a+bs=m:=⟨_,rfl⟩
     rw[hm] at q3
     have HMM:=Lib.hid hm
     have ham:a<m∧m<b:=by have:=HB2.out;omega
     clear hb hm
     by_cases hlb:b≤n
     ·as_aux_lemma=>
      have d3:decide ((b:Int)≤(n:Int))=true:=decide_eq_true (by omega)
      have d4:decide (b≤n)=true:=decide_eq_true hlb
      have h2:=HR.out.two (by have:=HBB.out;have:=HB2.out;omega) (by omega)
      rw[show a+2*bs=b by have:=HBB.out;have:=HB2.out;omega,show a+bs=m from HMM.out] at h2
      have HW:=Lib.hid (HM.out a m b g w3 hlb HA.out HG.out h2.1 h2.2.1 ham.1 ham.2)
      have HR3:=Lib.hid h2.2.2
      clear h2
      go_wp2_with (fail)
      refine HW.out.mono ?_
      rintro e w4 ⟨rfl,⟨g',hs,ht,ha'⟩,hg⟩
      have HA:=Lib.hid ha'
      have HG:=Lib.hid (HG.out.trans hg)
      have HP2:Hid (RunsP le g' b2 n b):=Lib.hid (by
       have h1:=HP.out.congr (g':=g') fun k hk=>hs.out k (.inl hk)
       have h2:=ht
       rw[←HBB.out] at h2 ⊢
       exact .snoc a h1 (by have:=HBB.out;omega) h2)
      have HR4:Hid (Runs le g' bs n b):=Lib.hid (HR3.out.congr fun k hk=>hs.out k (.inr hk))
      have HS2:Hid (Sw 0 n f g'):=Lib.hid (HS.out.trans (hs.mono (Nat.zero_le _) hlb))
      clear ha' hg hs ht HW
      go_wp2_with (fail)
      go_roundw
      case rel=>exact⟨b,g',rfl,rfl,hlb,HP2,HR4,HS2,HA,HG⟩
      case measure=>simp[intOf]<;>omega
     ·have d3:decide ((b:Int)≤(n:Int))=false:=decide_eq_false (by omega)
      have d4:decide (b≤n)=false:=decide_eq_false hlb
      by_cases hmn:m<n
      ·as_aux_lemma=>
       have d5:decide ((m:Int)<(n:Int))=true:=decide_eq_true (by omega)
       have d6:decide (m<n)=true:=decide_eq_true hmn
       have h2:=HR.out.half (by have:=HMM.out;omega) (by have:=HBB.out;have:=HB2.out;omega)
       rw[show a+bs=m from HMM.out] at h2
       have HW:=Lib.hid (HM.out a m n g w3 (Nat.le_refl _) HA.out HG.out h2.1 h2.2 ham.1 hmn)
       clear h2
       go_wp2_with (fail)
       refine HW.out.mono ?_
       rintro e w4 ⟨rfl,⟨g',hs,ht,ha'⟩,hg⟩
       have HA:=Lib.hid ha'
       have HG:=Lib.hid (HG.out.trans hg)
       have HR4:Hid (Runs le g' b2 n 0):=Lib.hid ((HP.out.congr (g':=g') fun k hk=>hs.out k (.inl hk)).app (.last a (by have:=HBB.out;omega) ht))
       have HS2:Hid (Sw 0 n f g'):=Lib.hid (HS.out.trans (hs.mono (Nat.zero_le _) (Nat.le_refl _)))
       clear ha' hg hs ht HW
       go_wp2_with (fail)
       go_roundw
       case rel=>exact⟨b2,g',rfl,by omega,by omega,HR4,HS2,HA,HG⟩
       case measure=>simp[intOf]<;>omega
      ·as_aux_lemma=>
       have d5:decide ((m:Int)<(n:Int))=false:=decide_eq_false (by omega)
       have d6:decide (m<n)=false:=decide_eq_false hmn
       have HR4:Hid (Runs le g b2 n 0):=Lib.hid (HP.out.app (.last a (by have:=HBB.out;omega) (HR.out.one (by have:=HMM.out;omega))))
       go_wp2_with (fail)
       go_roundw
       case rel=>exact⟨b2,g,rfl,by omega,by omega,HR4,HS,HA,HG⟩
       case measure=>simp[intOf]<;>omega
theorem sortStable_any (blk n cap gc:Nat) (cb:Array Value) (cf:El zz→El zz→Int) (le:El zz→El zz→Prop) (f:Nat→El zz) (w:World) (hA:Arr w blk n f) (hn:n≤100000)
  (o:Ord le) (hcf: ∀x y,cf x y<0↔ ¬le y x) (hC:CmpOK gc cb cf blk w) (heg: ∀args W,(callFunc gc args).run Tryz.prog W= .ok (.enter gc args) W):
  Calls Tryz.prog 200 #[.slice (some ⟨blk,0,none⟩) n cap,.func (.func gc) #[] cb] w (InsOut le f blk n 0 n w):=by
 have HW:=Lib.hid (stable_any blk n cap gc cb cf le f w hA hn o hcf hC heg)
 clear hA o hcf hC
 go_enter Tryz.func200,Tryz.ntmps200
 go_wp2_with (fail)
 refine HW.out.mono ?_
 rintro e w1 ⟨rfl,h1,h2⟩
 have H1:=Lib.hid h1
 have H2:=Lib.hid h2
 clear h1 h2
 go_wp2_with (fail)
 go_end0
 exact⟨rfl,H1.out,H2.out⟩
end Go.Proofs.YtmdgeoalamancaaGreatDoor
namespace Go.Proofs.YtmdgeoalamancaaGreatDoor
open Go.RowKit
open Bt Can Mc Pk
theorem occ_mem (l:List Nat) (s:Nat): ∀k,s∈occ l k↔s<k∧1≤l.getD s 0
 |0=>by constructor
        ·intro h;cases h
        ·rintro⟨h,_⟩;omega
 |k+1=>by
  have ih:=occ_mem l s k
  unfold occ
  split
  ·rename_i hk
   rw[List.mem_append,List.mem_singleton,ih]
   constructor
   ·rintro (h|rfl)
    ·exact⟨by omega,h.2⟩
    ·exact⟨by omega,hk⟩
   ·rintro⟨h1,h2⟩
    by_cases e:s=k
    ·exact .inr e
    ·exact .inl ⟨by omega,h2⟩
  ·rename_i hk
   rw[ih]
   constructor
   ·rintro⟨h1,h2⟩;exact⟨by omega,h2⟩
   ·rintro⟨h1,h2⟩
    by_cases e:s=k
    ·subst e;exact absurd h2 hk
    ·exact⟨by omega,h2⟩
theorem occ_nodup (l:List Nat): ∀k,(occ l k).Nodup
 |0=>List.nodup_nil
 |k+1=>by
  have ih:=occ_nodup l k
  unfold occ
  split
  ·rw[List.nodup_append]
   refine⟨ih,by simp,fun a ha b hb=> ?_⟩
   rw[List.mem_singleton] at hb
   have:=((occ_mem l a k).1 ha).1
   omega
  ·exact ih
theorem occ_inj (l:List Nat) (k:Nat) {i j:Nat} (hi:i<(occ l k).length) (hj:j<(occ l k).length) (e:(occ l k).getD i 0=(occ l k).getD j 0):i=j:=by
 rw[List.getD_eq_getElem?_getD,List.getD_eq_getElem?_getD,List.getElem?_eq_getElem hi,List.getElem?_eq_getElem hj] at e
 refine ((List.getElem?_inj hi (occ_nodup l k)).1 ?_)
 rw[List.getElem?_eq_getElem hi,List.getElem?_eq_getElem hj]
 exact congrArg some e
theorem occ_at (l:List Nat) (k:Nat) {i:Nat} (hi:i<(occ l k).length):(occ l k).getD i 0<k∧1≤l.getD ((occ l k).getD i 0) 0:=by
 refine (occ_mem l _ k).1 ?_
 rw[List.getD_eq_getElem?_getD,List.getElem?_eq_getElem hi]
 exact List.getElem_mem hi
structure Made (cs ls:List Nat) (M:Nat):Prop where
 len:ls.length=cs.length
 le: ∀x∈ls,x≤M
 zero: ∀s,cs.getD s 0=0→Can.len ls s=0
 pos: ∀s,1≤cs.getD s 0→1≤Can.len ls s
 many:2≤(occ cs cs.length).length→krf ls 15=2^15
 one:(occ cs cs.length).length=1→krf ls 15=2^14∧mny ls 1=1
 none:(occ cs cs.length).length=0→krf ls 15=0
theorem getD_lt {l:List Nat} {s:Nat} (h:1≤l.getD s 0):s<l.length:=by
 by_cases e:s<l.length
 ·exact e
 ·rw[List.getD_eq_getElem?_getD,List.getElem?_eq_none (by omega)] at h
  exact absurd h (by decide)
theorem made_none (cs:List Nat) (M:Nat) (h:(occ cs cs.length).length=0):Made cs (List.replicate cs.length 0) M:=by
 have e:occ cs cs.length=[]:=List.eq_nil_of_length_eq_zero h
 refine⟨by simp,fun x hx=> ?_,fun s _=> ?_,fun s hs=> ?_,fun h2=>by omega,fun h2=>by omega,fun _=> ?_⟩
 ·rw[List.eq_of_mem_replicate hx];exact Nat.zero_le _
 ·unfold Can.len
  rw[List.getD_eq_getElem?_getD,List.getElem?_replicate]
  split<;>rfl
 ·have:=(occ_mem cs s cs.length).2 ⟨getD_lt hs,hs⟩
  rw[e] at this
  cases this
 ·rw[krf_tot,tot_zero]
theorem set_zero_count (z s:Nat) (hs:s<z):((List.replicate z 0).set s 1).count 1=1:=by
 induction z generalizing s with
 |zero=>omega
 |succ z ih=>
  cases s with
  |zero=>rw[List.replicate_succ,List.set_cons_zero,List.count_cons];simp[List.count_replicate]
  |succ s=>rw[List.replicate_succ,List.set_cons_succ,List.count_cons,ih s (by omega)];rfl
theorem made_single (cs:List Nat) (M s:Nat) (hM:1≤M) (h:occ cs cs.length=[s]):Made cs ((List.replicate cs.length 0).set s 1) M:=by
 have hs:=(occ_mem cs s cs.length).1 (by rw[h];simp)
 have h0:(List.replicate cs.length 0).getD s 0=0:=by
  rw[List.getD_eq_getElem?_getD,List.getElem?_replicate]
  split<;>rfl
 refine⟨by simp,fun x hx=> ?_,fun t ht=> ?_,fun t ht=> ?_,fun h2=> ?_,fun _=> ?_,fun h2=> ?_⟩
 ·rcases List.mem_or_eq_of_mem_set hx with h1|h1
  ·rw[List.eq_of_mem_replicate h1];exact Nat.zero_le _
  ·rw[h1];exact hM
 ·unfold Can.len
  have hne:s≠t:=by rintro rfl;omega
  rw[List.getD_eq_getElem?_getD,List.getElem?_set_ne hne,List.getElem?_replicate]
  split<;>rfl
 ·have:=(occ_mem cs t cs.length).2 ⟨getD_lt ht,ht⟩
  rw[h,List.mem_singleton] at this
  subst this
  unfold Can.len
  rw[List.getD_eq_getElem?_getD,List.getElem?_set_self (by simpa using hs.1)]
  exact Nat.le_refl _
 ·rw[h,List.length_singleton] at h2;omega
 ·refine⟨?_,?_⟩
  ·rw[krf_tot,tot_set _ _ _ (by simpa using hs.1) h0,tot_zero]
   rfl
  ·exact set_zero_count _ _ hs.1
 ·rw[h,List.length_singleton] at h2;omega
theorem Sw.perm {α:Type} {b:Nat} {f g:Nat→α} (h:Sw 0 b f g): ∃σ τ:Nat→Nat,(∀k,g k=f (σ k))∧(∀k,τ (σ k)=k)∧(∀k,σ (τ k)=k)∧(∀k,k<b→σ k<b)∧(∀k,k<b→τ k<b):=by
 induction h with
 |refl=>exact⟨id,id,fun _=>rfl,fun _=>rfl,fun _=>rfl,fun _ h=>h,fun _ h=>h⟩
 |step i j _ hi hib hj hjb ih=>
  obtain⟨σ,τ,h1,h2,h3,h4,h5⟩:=ih
  let x:Nat→Nat:=fun k=>if k=i then j else if k=j then i else k
  have xx: ∀k,x (x k)=k:=fun k=>by
   show (if (if k=i then j else if k=j then i else k)=i then j else if (if k=i then j else if k=j then i else k)=j then i else (if k=i then j else if k=j then i else k))=k
   split<;>split<;>(try split)<;>(try split)<;>omega
  have xb: ∀k,k<b→x k<b:=fun k hk=>by
   show (if k=i then j else if k=j then i else k)<b
   split
   ·exact hjb
   ·split
    ·exact hib
    ·exact hk
  refine⟨fun k=>σ (x k),fun k=>x (τ k),fun k=> ?_,fun k=> ?_,fun k=> ?_,fun k hk=>h4 _ (xb k hk),fun k hk=>xb _ (h5 k hk)⟩
  ·unfold swp
   show _=f (σ (if k=i then j else if k=j then i else k))
   rw[←h1]
   split
   ·rfl
   ·split<;>rfl
  ·show x (τ (σ (x k)))=k
   rw[h2,xx]
  ·show σ (x (x (τ k)))=k
   rw[xx,h3]
structure Syms (cs:List Nat) (m:Nat) (sy:Nat→Nat):Prop where
 num:m=(occ cs cs.length).length
 lt: ∀i,i<m→sy i<cs.length
 inj: ∀a b,a<b→b<m→sy a≠sy b
 occ: ∀i,i<m→1≤cs.getD (sy i) 0
 all: ∀s,1≤cs.getD s 0→ ∃i,i<m∧sy i=s
 asc: ∀i j,i<j→j<m→cs.getD (sy i) 0≤cs.getD (sy j) 0
theorem syms_of (cs:List Nat) {m:Nat} (hm:m=(occ cs cs.length).length) {sy:Nat→Nat} {σ τ:Nat→Nat} (h1: ∀k,k<m→sy k=(Go.Proofs.YtmdgeoalamancaaGreatDoor.occ cs cs.length).getD (σ k) 0) (h2: ∀k,τ (σ k)=k) (h3: ∀k,σ (τ k)=k) (h4: ∀k,k<m→σ k<m) (h5: ∀k,k<m→τ k<m) (ha: ∀i j,i<j→j<m→cs.getD (sy i) 0≤cs.getD (sy j) 0):Syms cs m sy:=by
 refine⟨hm,fun i hi=> ?_,fun a b hab hb e=> ?_,fun i hi=> ?_,fun s hs=> ?_,ha⟩
 ·rw[h1 i hi];exact (occ_at cs _ (by rw[←hm];exact h4 i hi)).1
 ·rw[h1 a (by omega),h1 b hb] at e
  have:=occ_inj cs _ (by rw[←hm];exact h4 a (by omega)) (by rw[←hm];exact h4 b hb) e
  have h6:=congrArg τ this
  rw[h2,h2] at h6
  omega
 ·rw[h1 i hi];exact (occ_at cs _ (by rw[←hm];exact h4 i hi)).2
 ·have:=(occ_mem cs s cs.length).2 ⟨getD_lt hs,hs⟩
  obtain⟨j,hj,e⟩:=List.mem_iff_getElem.1 this
  refine⟨τ j,h5 j (by omega),?_⟩
  rw[h1 _ (h5 j (by omega)),h3,List.getD_eq_getElem?_getD,List.getElem?_eq_getElem hj,e]
  rfl
def lvs (cs:List Nat) (sy:Nat→Nat) (m:Nat):List Nat:=(List.range m).map fun i=>cs.getD (sy i) 0
theorem lvs_len (cs:List Nat) (sy:Nat→Nat) (m:Nat):(lvs cs sy m).length=m:=by unfold lvs;simp
theorem lvs_get (cs:List Nat) (sy:Nat→Nat) {m i:Nat} (h:i<m):(lvs cs sy m)[i]? =some (cs.getD (sy i) 0):=by
 unfold lvs
 rw[List.getElem?_map,List.getElem?_range h]
 rfl
theorem lvs_asc {cs:List Nat} {sy:Nat→Nat} {m:Nat} (h:Syms cs m sy):Asc (lvs cs sy m):=by
 refine List.pairwise_iff_getElem.2 fun i j hi hj hij=> ?_
 have h1:=lvs_get cs sy (m:=m) (i:=i) (by rw[lvs_len] at hi;exact hi)
 have h2:=lvs_get cs sy (m:=m) (i:=j) (by rw[lvs_len] at hj;exact hj)
 rw[List.getElem?_eq_getElem hi] at h1
 rw[List.getElem?_eq_getElem hj] at h2
 injection h1 with h1
 injection h2 with h2
 rw[h1,h2]
 exact h.asc i j hij (by rw[lvs_len] at hj;exact hj)
theorem lvs_le {cs:List Nat} {sy:Nat→Nat} {m M:Nat} (h: ∀x∈cs,x≤M): ∀x∈lvs cs sy m,x≤M:=by
 intro x hx
 unfold lvs at hx
 obtain⟨i,_,rfl⟩:=List.mem_map.1 hx
 rw[List.getD_eq_getElem?_getD]
 cases e:cs[sy i]? with
 |none=>exact Nat.zero_le _
 |some y=>exact h y (List.mem_of_getElem? e)
def dps (cs:List Nat) (sy:Nat→Nat) (m T k:Nat):List Nat:=lay cs.length sy (fun i=>dep (lvs cs sy m) T i (T+1)) k
theorem made_many {cs:List Nat} {sy:Nat→Nat} {m T M:Nat} (h:Syms cs m sy) (h2:2≤m) (hM:M=T+1) (hT:M≤15) (hf:m≤2^(T+1)):Made cs (dps cs sy m T m) M:=by
 have hl:=lvs_len cs sy m
 have hA:=lvs_asc h
 have hk:=made_full (lvs cs sy m) T cs.length sy hA (by omega) (by rw[hl];exact hf) (by rw[hl];exact h2) (fun i hi=>h.lt i (by omega)) (fun a b h3 h4=>h.inj a b h3 (by omega))
 rw[hl] at hk
 have hle: ∀k,∀x∈dps cs sy m T k,x≤M:=fun k=>by
  induction k with
  |zero=>intro x hx;rw[List.eq_of_mem_replicate hx];exact Nat.zero_le _
  |succ k ih=>
   intro x hx
   rcases List.mem_or_eq_of_mem_set (show x∈(dps cs sy m T k).set (sy k) _ from hx) with h1|h1
   ·exact ih x h1
   ·rw[h1]
    show dep (lvs cs sy m) T k (T+1)≤M
    rw[hM]
    exact dep_le _ _ _ _
 refine⟨lay_len _ _ _ _,hle m,fun s hs=> ?_,fun s hs=> ?_,fun _=>hk,fun h3=> ?_,fun h3=> ?_⟩
 ·refine lay_no _ _ _ s m fun i hi e=> ?_
  have:=h.occ i hi
  rw[e] at this
  omega
 ·obtain⟨i,hi,rfl⟩:=h.all s hs
  unfold Can.len dps
  rw[lay_at cs.length sy _ i (h.lt i hi) m hi (fun a b h3 h4=>h.inj a b h3 h4)]
  exact dep_pos (lvs cs sy m) T hA (by rw[hl];exact hf) (by rw[hl];exact h2) (by rw[hl];exact hi)
 ·have:=h.num;omega
 ·have:=h.num;omega
def sg (a b:Int):Int:=if a<b then-1 else if b<a then 1 else 0
theorem intNaN_any (a:Int) (w:World):Calls Tryz.prog 182 #[.int .i64 a] w fun e w'=>e= .returned (.bool false)∧w'=w:=by
 go_enter Tryz.func182,Tryz.ntmps182
 go_wp2
 go_ret
 exact⟨by simp,rfl⟩
theorem cmp_any (a b:Int) (w:World):Calls Tryz.prog 202 #[.int .i64 a,.int .i64 b] w fun e w'=>e= .returned (.int .i64 (sg a b))∧w'=w:=by
 have HS:Hid (sg a b=if a<b then-1 else if b<a then 1 else 0):=rfl
 generalize sg a b=x at*
 go_enter Tryz.func202,Tryz.ntmps202
 go_wp2_with (first|(go_at_call 182;refine (intNaN_any _ _).mono ?_;rintro e w' ⟨rfl,rfl⟩))
 all_goals
  go_ret
  refine⟨?_,rfl⟩
  rw[HS.out]
  first
   |(rw[if_pos (by assumption)];rfl)
   |(rw[if_neg (by omega),if_pos (by assumption)];rfl)
   |(rw[if_neg (by omega),if_neg (by omega)];rfl)
set_option maxHeartbeats 2000000 in
theorem cmpC_any (bx bb off n cap i j x y:Nat) (w:World) (h0:w.cell? ⟨bx,0,none⟩=some (.slice (some ⟨bb,off,none⟩) n cap)) (hi:i<n) (hj:j<n) (hx:w.cell? ⟨bb,off+i,none⟩=some (.int .i64 (x:Nat))) (hy:w.cell? ⟨bb,off+j,none⟩=some (.int .i64 (y:Nat))):Calls Tryz.prog 201 #[.int .i64 (i:Nat),.int .i64 (j:Nat),.pointer (some ⟨bx,0,none⟩)] w fun e w'=>e= .returned (.int .i64 (sg x y))∧Below w.heap.size w w':=by
 have HC:=Lib.hid (fun W=>cmp_any (x:Int) (y:Int) W)
 have hii:(i:Int)<(n:Int):=by omega
 have hjj:(j:Int)<(n:Int):=by omega
 obtain⟨S,hS⟩: ∃z,sg (x:Int) (y:Int)=z:=⟨_,rfl⟩
 rw[hS] at HC ⊢
 clear hS
 go_enter Tryz.func201,Tryz.ntmps201
 go_upto_region 1 with (fail)
 go_quiet ((go_at_call 202;exact Calls.quiet_of_same (HC.out _)))
 go_wp2_with (fail)
 go_ret
 exact⟨rfl,below_drewN (Below.refl _ _) nq⟩
end Go.Proofs.YtmdgeoalamancaaGreatDoor
namespace Go.Proofs.YtmdgeoalamancaaGreatDoor
open Go.RowKit
open Bt Can Mc Pk
def MkP (cs:List Nat) (M n:Nat) (w:World) (e:Ending) (w':World):Prop:= ∃v' ls,e= .returned (.tuple #[v',.int .i64 0])∧Row w.heap.size 3 1 w' v' n (iC ls)∧Below w.heap.size w w'∧Made cs ls M
def lvk (cs:List Nat) (sy:Nat→Nat) (m i:Nat):List Nat:=(List.range m).map fun k=>if k<i then cs.getD (sy k) 0 else 0
theorem lvk_len (cs:List Nat) (sy:Nat→Nat) (m i:Nat):(lvk cs sy m i).length=m:=by unfold lvk;simp
theorem lvk_get (cs:List Nat) (sy:Nat→Nat) (i:Nat) {m k:Nat} (h:k<m):(lvk cs sy m i)[k]? =some (if k<i then cs.getD (sy k) 0 else 0):=by
 unfold lvk
 rw[List.getElem?_map,List.getElem?_range h]
 rfl
theorem lvk_zero (cs:List Nat) (sy:Nat→Nat) (m:Nat):List.replicate m 0=lvk cs sy m 0:=by
 refine List.ext_getElem? fun k=> ?_
 by_cases h:k<m
 ·rw[lvk_get _ _ _ h,List.getElem?_replicate,if_pos h,if_neg (by omega)]
 ·rw[List.getElem?_eq_none (by simp;omega),List.getElem?_eq_none (by rw[lvk_len];omega)]
theorem lvk_step (cs:List Nat) (sy:Nat→Nat) {m i:Nat} (hi:i<m):(lvk cs sy m i).set i (cs.getD (sy i) 0)=lvk cs sy m (i+1):=by
 refine List.ext_getElem? fun k=> ?_
 by_cases h:k<m
 ·rw[lvk_get _ _ _ h]
  by_cases e:i=k
  ·subst e
   rw[List.getElem?_set_self (by rw[lvk_len];exact h),if_pos (by omega)]
  ·rw[List.getElem?_set_ne e,lvk_get _ _ _ h]
   by_cases h2:k<i
   ·rw[if_pos h2,if_pos (by omega)]
   ·rw[if_neg h2,if_neg (by omega)]
 ·rw[List.getElem?_eq_none (by rw[List.length_set,lvk_len];omega),List.getElem?_eq_none (by rw[lvk_len];omega)]
theorem lvk_all (cs:List Nat) (sy:Nat→Nat) (m:Nat):lvk cs sy m m=lvs cs sy m:=by
 refine List.ext_getElem? fun k=> ?_
 by_cases h:k<m
 ·rw[lvk_get _ _ _ h,lvs_get _ _ h,if_pos h]
 ·rw[List.getElem?_eq_none (by rw[lvk_len];omega),List.getElem?_eq_none (by rw[lvs_len];omega)]
theorem lay_getD (z:Nat) (sy d:Nat→Nat) (k s:Nat) (hs:s<z): ∃x,(lay z sy d k)[s]? =some x:=⟨_,List.getElem?_eq_getElem (by rw[lay_len];exact hs)⟩
theorem sorted_syms (cs:List Nat) {m:Nat} (hm:m=(occ cs cs.length).length) (f g:Nat→El cs.length) (hf: ∀k,k<m→(f k).1=(occ cs cs.length).getD k 0) (h1:Sw 0 m f g) (h2:Srt (fun x y:El cs.length=>cs.getD x.1 0≤cs.getD y.1 0) g 0 m):Syms cs m (fun k=>(g k).1):=by
 obtain⟨σ,τ,a1,a2,a3,a4,a5⟩:=h1.perm
 exact syms_of cs hm (fun k hk=>by rw[a1];exact hf _ (a4 k hk)) a2 a3 a4 a5 (fun i j hij hj=>h2 i j (Nat.zero_le _) hij hj)
set_option maxHeartbeats 32000000 in
theorem make_any (cs:List Nat) (n T M B:Nat) (v:Value) (w:World) (h:Sl w B 1 v n (iC cs)) (hB:B≤w.heap.size) (hn:n=cs.length) (h1:1≤n) (hl:n≤1000) (hx: ∀x∈cs,x≤1099511627776) (hM:M=T+1) (hT:M≤15) (hf:(occ cs n).length≤2^M):Calls Tryz.prog 188 #[v,.int .i64 (M:Nat)] w (MkP cs M n w):=by
 obtain⟨bb,off,cap,rfl,hcap,hbb,HK⟩:=h.kept hB h1
 have HCK:=Lib.hid (fun (W:World) (hW:Below w.heap.size w W)=>check_any cs n B M (.slice (some ⟨bb,off,none⟩) n cap) W (h.below (hW.mono hB)) (by have:=hW.size;omega) hn h1 hl hx ⟨by omega,hT⟩ hf)
 have HOC:=Lib.hid (fun (W:World) (hW:Below w.heap.size w W)=>occurring_any cs n B (.slice (some ⟨bb,off,none⟩) n cap) W (h.below (hW.mono hB)) (by have:=hW.size;omega) hn h1 hl)
 obtain⟨w1,hw1⟩: ∃z:World,z=w.alloc (.cells #[.slice (some ⟨bb,off,none⟩) n cap] 55):=⟨_,rfl⟩
 have HB1:Hid (Below w.heap.size w w1):=Lib.hid (by rw[hw1];exact (Below.refl _ _).alloc (Nat.le_refl _) _)
 have HO1:Hid (Own w1 w.heap.size [.slice (some ⟨bb,off,none⟩) n cap]):=Lib.hid (by rw[hw1];exact Own.new_at w _ _ _ rfl)
 have hz1:w.heap.size+1≤w1.heap.size:=by rw[hw1];simp
 have HN:=Lib.hid hn
 have HX:=Lib.hid hx
 have HM:=Lib.hid hM
 obtain⟨m,hm⟩: ∃z,(occ cs n).length=z:=⟨_,rfl⟩
 have HMQ:Hid (m=(occ cs cs.length).length):=Lib.hid (by rw[←hn];exact hm.symm)
 have hmn:m≤n:=by rw[←hm];exact occ_len _ _
 rw[hm] at HOC hf
 have HF:=Lib.hid hf
 have hM1:1≤M:=by omega
 clear h hn hx hM hm hf
 go_enter Tryz.func188,Tryz.ntmps188
 go_upto_region 1 with (fail)
 rw[←hw1]
 clear hw1
 obtain⟨bx,hbx⟩: ∃z,w.heap.size=z:=⟨_,rfl⟩
 have HBX:=Lib.hid hbx
 rw[hbx] at HO1 hz1 ⊢
 clear hbx
 have kb:=HO1.out.1 0 _ rfl
 go_wp2_with (fail)
 refine (HCK.out w1 HB1.out).mono ?_
 rintro e w2 ⟨rfl,hb2⟩
 have HB2:=Lib.hid (HB1.out.trans (hb2.mono HB1.out.size))
 have HO2:=Lib.hid (HO1.out.below hb2 (by omega))
 have hz2:bx+1≤w2.heap.size:=Nat.le_trans hz1 hb2.size
 clear hb2 kb HCK HO1 HB1 hz1
 have kb:=HO2.out.1 0 _ rfl
 have hmk:=hmkI n w2 (by omega)
 obtain⟨w3,hw3⟩: ∃z:World,z=w2.alloc (.cells (iC (List.replicate n 0)).toArray 3):=⟨_,rfl⟩
 have HLR:Hid (Row w2.heap.size 3 1 w3 (.slice (some ⟨w2.heap.size,0,none⟩) n n) n (iC (List.replicate n 0))):=Lib.hid (by
  rw[hw3]
  exact Row.lit w2 _ (Nat.le_refl _) (by omega) (by rw[iC_len];simp))
 have hb3:Below w2.heap.size w2 w3:=by rw[hw3];exact (Below.refl _ _).alloc (Nat.le_refl _) _
 have HB3:=Lib.hid (HB2.out.trans (hb3.mono HB2.out.size))
 have HO3:=Lib.hid (HO2.out.below hb3 (by omega))
 have hz3:w2.heap.size+1≤w3.heap.size:=by rw[hw3];simp
 go_upto_region 5 with (fail)
 rw[←hw3]
 clear hw3 hmk hb3 kb HO2 HB2
 obtain⟨nb,hnb⟩: ∃z,w2.heap.size=z:=⟨_,rfl⟩
 rw[hnb] at HLR hz2 hz3 ⊢
 clear hnb
 have kb:=HO3.out.1 0 _ rfl
 go_wp2_with (fail)
 refine (HOC.out w3 HB3.out).mono ?_
 rintro e w4 ⟨sv,rfl,hsr,hb4⟩
 rw[HN.out] at hsr
 have HSR:=Lib.hid hsr
 have HLR4:=Lib.hid (HLR.out.below hb4)
 have HB4:=Lib.hid (HB3.out.trans (hb4.mono HB3.out.size))
 have HO4:=Lib.hid (HO3.out.below hb4 (by omega))
 have hz4:nb+1≤w4.heap.size:=Nat.le_trans hz3 hb4.size
 have hrow:=row_form hsr
 clear hsr hb4 HLR HB3 HO3 HOC kb
 have kb:=HO4.out.1 0 _ rfl
 rcases hrow with ⟨rfl,h0,h00⟩|⟨sb,sc,rfl,hsc,hsb1,hsb2⟩
 ·as_aux_lemma=>
  subst h0
  have HMD:=Lib.hid (made_none cs M HMQ.out.symm)
  rw[←HN.out] at HMD
  clear h00
  go_wp2_with (fail)
  go_ret2
  exact⟨_,List.replicate n 0,rfl,HLR4.out.mono (by have:=HBX.out;omega),HB4.out,HMD.out⟩
 ·by_cases hm0:m=0
  ·as_aux_lemma=>
   subst hm0
   have HMD:=Lib.hid (made_none cs M HMQ.out.symm)
   rw[←HN.out] at HMD
   go_wp2_with (fail)
   go_ret2
   exact⟨_,List.replicate n 0,rfl,HLR4.out.mono (by have:=HBX.out;omega),HB4.out,HMD.out⟩
  by_cases hm1:m=1
  ·as_aux_lemma=>
   subst hm1
   obtain⟨s,hs⟩: ∃s,occ cs cs.length=[s]:=List.length_eq_one_iff.1 HMQ.out.symm
   have HMD:=Lib.hid (made_single cs M s hM1 hs)
   rw[←HN.out] at HMD
   have hsn:s<n:=by rw[HN.out];exact ((occ_mem cs s cs.length).1 (by rw[hs];simp)).1
   rw[hs] at HSR
   have k0:=World.ownsRow.cells HSR.out (g:=sb) rfl 0 (.int .i64 (s:Nat)) rfl
   rw[add_plain] at k0
   have kp:=sl_same HLR4.out.sl (by omega) s (.int .i64 0) (by rw[iC_rep,List.getElem?_replicate,if_pos hsn])
   rw[Nat.zero_add] at kp
   have fp:=HLR4.out.frozenAt s
   have hsi:(s:Int)<(n:Int):=by omega
   have HL6:Hid (Row nb 3 1 (w4.setCell ⟨nb,s,none⟩ (.int .i64 1)) (.slice (some ⟨nb,0,none⟩) n n) n (iC ((List.replicate n 0).set s 1))):=Lib.hid (by
    rw[←iC_set]
    exact (World.ownsRow.stored HLR4.out s (.int .i64 1)).1)
   have HB6:=Lib.hid (HB4.out.setCell (p:=⟨nb,s,none⟩) (by show w.heap.size≤nb;have:=HBX.out;omega) (.int .i64 1))
   clear hs
   go_wp2_with (fail)
   go_ret2
   exact⟨_,(List.replicate n 0).set s 1,rfl,HL6.out.mono (by have:=HBX.out;omega),HB6.out,HMD.out⟩
  have hm2:2≤m:=by omega
  have e0:((m:Int)==1)=false:=by rw[beq_eq_false_iff_ne];omega
  have e0':(m==1)=false:=by rw[beq_eq_false_iff_ne];omega
  have e1:decide ((m:Int)<2)=false:=decide_eq_false (by omega)
  have e1':decide (m<2)=false:=decide_eq_false (by omega)
  have e2:decide ((m:Int)=1)=false:=decide_eq_false (by omega)
  have hmf: ∀(fn:Fn) (first cap:Array Value) (w:World),(Instr.makeFunc fn first cap).run Tryz.prog w= .ok (.func fn first cap) w:=fun _ _ _ _=>rfl
  obtain⟨f,hff⟩: ∃f:Nat→El cs.length,∀k,(f k).1=(occ cs cs.length).getD k 0:=by
   have hz:0<cs.length:=by have:=HN.out;omega
   refine⟨fun k=>⟨(occ cs cs.length).getD k 0,?_⟩,fun k=>rfl⟩
   by_cases hk:k<(occ cs cs.length).length
   ·exact (occ_at cs _ hk).1
   ·rw[List.getD_eq_getElem?_getD,List.getElem?_eq_none (by omega)];exact hz
  have hA4:Arr w4 sb m f:=by
   refine⟨fun k hk=> ?_,fun k=>World.ownsRow.frozenAt HSR.out k,hsb2⟩
   have hk':k<(occ cs cs.length).length:=by rw[←HMQ.out];exact hk
   have:=World.ownsRow.cells HSR.out (g:=sb) rfl k (.int .i64 ((occ cs cs.length).getD k 0:Nat)) (iC_get (by rw[List.getD_eq_getElem?_getD,List.getElem?_eq_getElem hk'];rfl))
   rw[add_plain,Nat.zero_add] at this
   rw[this]
   unfold enc
   rw[hff]
  have hord:Ord (fun x y:El cs.length=>cs.getD x.1 0≤cs.getD y.1 0):=⟨fun h1 h2=>Nat.le_trans h1 h2,fun x y=>Nat.le_total _ _⟩
  have hcf: ∀x y:El cs.length,sg (cs.getD x.1 0:Nat) (cs.getD y.1 0:Nat)<0↔ ¬cs.getD y.1 0≤cs.getD x.1 0:=fun x y=>by
   unfold sg
   constructor
   ·intro h
    split at h
    ·omega
    ·split at h<;>omega
   ·intro h
    rw[if_pos (by omega)]
    decide
  have hcm:CmpOK 201 #[.pointer (some ⟨bx,0,none⟩)] (fun x y:El cs.length=>sg (cs.getD x.1 0:Nat) (cs.getD y.1 0:Nat)) sb w4:=fun W hW x y=>by
   have hbW:Below w.heap.size w W:=HB4.out.trans (hW.below (by have:=HBX.out;omega) HB4.out.size)
   have hkx: ∀z:El cs.length,cs[z.1]? =some (cs.getD z.1 0):=fun z=>by rw[List.getD_eq_getElem?_getD,List.getElem?_eq_getElem z.2];rfl
   have hkb:W.cell? ⟨bx,0,none⟩=some (.slice (some ⟨bb,off,none⟩) n cap):=((hW.below (B:=nb) (by omega) (by omega)).cell (p:=⟨bx,0,none⟩) (show bx<nb by omega)).trans kb
   exact cmpC_any bx bb off n cap x.1 y.1 (cs.getD x.1 0) (cs.getD y.1 0) W hkb (by rw[HN.out];exact x.2) (by rw[HN.out];exact y.2) (HK.out W hbW _ _ (hkx x)) (HK.out W hbW _ _ (hkx y))
  have HSO:=Lib.hid (sortStable_any sb m sc 201 #[.pointer (some ⟨bx,0,none⟩)] (fun x y:El cs.length=>sg (cs.getD x.1 0:Nat) (cs.getD y.1 0:Nat)) (fun x y:El cs.length=>cs.getD x.1 0≤cs.getD y.1 0) f w4 hA4 (by omega) hord hcf hcm (fun _ _=>by kernel_rfl))
  have HFF:=Lib.hid hff
  clear hA4 hord hcf hcm hff
  go_upto_region 10 with (fail)
  go_wp2_with (fail)
  refine HSO.out.mono ?_
  rintro e w5 ⟨rfl,⟨g,hsw,hsrt,hA5⟩,hg5⟩
  have HSY:=Lib.hid (sorted_syms cs HMQ.out f g (fun k _=>HFF.out k) hsw hsrt)
  have hb5:=hg5.below (B:=nb) (by omega) (by omega)
  have HB5:=Lib.hid (HB4.out.trans (hg5.below (B:=w.heap.size) (by have:=HBX.out;omega) HB4.out.size))
  have HO5:=Lib.hid (HO4.out.below hb5 (by omega))
  have HLR5:Hid (Row nb 3 1 w5 (.slice (some ⟨nb,0,none⟩) n n) n (iC (List.replicate n 0))):=Lib.hid (World.ownsRow.kept HLR4.out hg5 (.inr (by show some nb≠some sb;intro e;injection e with e;omega)))
  have HA5:=Lib.hid hA5
  have hz5:nb+1≤w5.heap.size:=by have:=hg5.size;omega
  have hsb5:sb<w5.heap.size:=hA5.lt
  obtain⟨sy,hsy⟩: ∃sy:Nat→Nat,sy=fun k=>(g k).1:=⟨_,rfl⟩
  rw[←hsy] at HSY
  have HCS:Hid (∀W:World,W.heap[sb]? =w5.heap[sb]? → ∀k,k<m→W.cell? ⟨sb,k,none⟩=some (.int .i64 (sy k:Nat))):=Lib.hid (fun W hW k hk=>by
   rw[World.cell?_of_block (w:=w5) (a:=⟨sb,k,none⟩) hW,HA5.out.cell k hk,hsy]
   rfl)
  clear hsw hsrt hA5 hg5 hb5 HSO HLR4 HB4 HO4 kb HSR hsb2 hz4 hsc hsy HA5 HFF
  clear g f
  have hmk:=hmkI m w5 (by omega)
  obtain⟨w6,hw6⟩: ∃z:World,z=w5.alloc (.cells (iC (List.replicate m 0)).toArray 3):=⟨_,rfl⟩
  have HLV:Hid (Row w5.heap.size 3 1 w6 (.slice (some ⟨w5.heap.size,0,none⟩) m m) m (iC (lvk cs sy m 0))):=Lib.hid (by
   rw[hw6,←lvk_zero]
   exact Row.lit w5 _ (Nat.le_refl _) (by omega) (by rw[iC_len];simp))
  have HB6:Hid (Below w5.heap.size w5 w6):=Lib.hid (by rw[hw6];exact (Below.refl _ _).alloc (Nat.le_refl _) _)
  go_upto_region 12 with (fail)
  rw[←hw6]
  clear hw6 hmk
  obtain⟨lb,hlb⟩: ∃z,w5.heap.size=z:=⟨_,rfl⟩
  rw[hlb] at HLV HB6 hz5 hsb5 ⊢
  have HLB:=Lib.hid hlb
  clear hlb
  have hbxl:bx<lb:=by omega
  go_upto_region 13 with (fail)
  go_loopw [45] (fun u wr=> ∃i:Nat,u= .int .i64 (i:Nat)∧i≤m∧Hid (Row lb 3 1 wr (.slice (some ⟨lb,0,none⟩) m m) m (iC (lvk cs sy m i)))∧Hid (Below lb w5 wr)) (fun u _=>m-(intOf u).toNat)
  case atStart=>exact⟨0,rfl,Nat.zero_le _,HLV,HB6⟩
  case round=>
   clear HLV HB6
   obtain⟨i,rfl,hi,HLV,HB6⟩:=hrel
   obtain⟨wo,rfl⟩: ∃z:World,z=wr:=⟨_,rfl⟩
   by_cases hin:i<m
   ·as_aux_lemma=>
    have d1:decide (i<m)=true:=decide_eq_true hin
    have d1':decide ((i:Int)<(m:Int))=true:=decide_eq_true (by omega)
    have hii:(i:Int)<(m:Int):=by omega
    have p5:IntKind.i64.wrap ((i:Int)+1)=((i+1:Nat):Int):=by rw[IntWalk.i64_in _ (by omega)];omega
    have hbW:Below w.heap.size w wo:=HB5.out.trans (HB6.out.mono (by rw[←HLB.out];exact HB5.out.size))
    have kb:=(HO5.out.below HB6.out hbxl).1 0 _ rfl
    have ks:=HCS.out wo (HB6.out.block sb hsb5) i hin
    have hsl:=HSY.out.lt i hin
    have HST:=Lib.hid (lvk_step cs sy hin)
    have hcx:cs[sy i]? =some (cs.getD (sy i) 0):=by rw[List.getD_eq_getElem?_getD,List.getElem?_eq_getElem hsl];rfl
    have kc:=HK.out wo hbW _ _ hcx
    have hsn:sy i<n:=by rw[HN.out];exact hsl
    have hlg:=lvk_get cs sy i hin
    rw[if_neg (Nat.lt_irrefl i)] at hlg
    have kp:=sl_same HLV.out.sl (by omega) i _ (iC_get hlg)
    rw[Nat.zero_add] at kp
    have fp:=HLV.out.frozenAt i
    obtain⟨s,hs⟩: ∃z,sy i=z:=⟨_,rfl⟩
    rw[hs] at ks kc hsn HST
    obtain⟨x,hx⟩: ∃z,cs.getD s 0=z:=⟨_,rfl⟩
    rw[hx] at kc HST
    have hsi:(s:Int)<(n:Int):=by omega
    have HL6:Hid (Row lb 3 1 (wo.setCell ⟨lb,i,none⟩ (.int .i64 (x:Nat))) (.slice (some ⟨lb,0,none⟩) m m) m (iC (lvk cs sy m (i+1)))):=Lib.hid (by
     rw[←HST.out,←iC_set]
     exact (World.ownsRow.stored HLV.out i (.int .i64 (x:Nat))).1)
    have HB7:=Lib.hid (HB6.out.setCell (p:=⟨lb,i,none⟩) (by show lb≤lb;exact Nat.le_refl _) (.int .i64 (x:Nat)))
    clear hs hx hcx hlg hbW hsl HST
    go_wp2_with (fail)
    go_roundw
    case rel=>exact⟨i+1,rfl,hin,HL6,HB7⟩
    case measure=>simp[intOf]<;>omega
   ·have d1:decide (i<m)=false:=decide_eq_false hin
    have d1':decide ((i:Int)<(m:Int))=false:=decide_eq_false (by omega)
    have hie:i=m:=by omega
    rw[hie,lvk_all] at HLV
    clear hie
    have HDP:=Lib.hid (depths_any (lvs cs sy m) m T M wo.heap.size (.slice (some ⟨lb,0,none⟩) m m) wo HLV.out.sl (Nat.le_refl _) (by rw[lvs_len]) hm2 (by omega) (lvs_le HX.out) (lvs_asc HSY.out) HM.out hT (by rw[←HM.out];exact HF.out))
    have HMD:=Lib.hid (made_many HSY.out hm2 HM.out hT (by rw[←HM.out];exact HF.out))
    go_upto_region 17 with (fail)
    go_wp2_with (fail)
    refine HDP.out.mono ?_
    rintro e w8 ⟨dv,rfl,hdr,hb8⟩
    rw[lvs_len] at hdr
    have hb58:=HB6.out.trans (hb8.mono (by have:=HB6.out.size;have:=HLB.out;omega))
    have HLR8:=Lib.hid (HLR5.out.below (by rw[HLB.out];exact hb58))
    have HB8:Hid (Below w.heap.size w w8):=Lib.hid (HB5.out.trans (hb58.mono (by rw[←HLB.out];exact HB5.out.size)))
    have HCS8:=Lib.hid (fun (W:World) (hW:Fr [nb] w8 W) (k:Nat) (hk:k<m)=>HCS.out W ((hW.block sb (Nat.lt_of_lt_of_le hsb5 (by have:=hb58.size;have:=HLB.out;omega)) (by simp;omega)).trans (hb58.block sb hsb5)) k hk)
    rcases row_form hdr with ⟨_,h0,_⟩|⟨db,dc,rfl,hdc,hdb1,hdb2⟩
    ·omega
    have HCD:Hid (∀W:World,Fr [nb] w8 W→ ∀k,k<m→W.cell? ⟨db,k,none⟩=some (.int .i64 (dep (lvs cs sy m) T k (T+1):Nat))):=Lib.hid (fun W hW k hk=>by
     have hg:=dl_get (lvs cs sy m) T (T+1) 0 (i:=k) (by rw[lvs_len];exact hk)
     rw[if_neg (by omega),Nat.add_zero] at hg
     have:=World.ownsRow.cells hdr (g:=db) rfl k _ (iC_get hg)
     rw[add_plain,Nat.zero_add] at this
     rw[World.cell?_of_block (w:=w8) (a:=⟨db,k,none⟩) (hW.block db hdb2 (by simp;have:=HB6.out.size;have:=HLB.out;omega)),this]
     rfl)
    have hz8:nb<w8.heap.size:=by have:=hb58.size;have:=HLB.out;omega
    have HDL:=Lib.hid (fun k=>dep_le (lvs cs sy m) T k (T+1))
    have HL0:Hid (Row nb 3 1 w8 (.slice (some ⟨nb,0,none⟩) n n) n (iC (dps cs sy m T 0))):=Lib.hid (by show Row nb 3 1 w8 _ n (iC (List.replicate cs.length 0));rw[←HN.out];exact HLR8.out)
    clear hdr hb8 hb58 HDP HLV HB6 HLR5 HLR8
    go_upto_region 18 with (fail)
    go_loopw [62] (fun u wr=> ∃i:Nat,u= .int .i64 (i:Nat)∧i≤m∧Hid (Row nb 3 1 wr (.slice (some ⟨nb,0,none⟩) n n) n (iC (dps cs sy m T i)))∧Hid (Fr [nb] w8 wr)) (fun u _=>m-(intOf u).toNat)
    case atStart=>exact⟨0,rfl,Nat.zero_le _,HL0,Lib.hid (Fr.refl _ _)⟩
    case round=>
     clear HL0 d1 d1' hin hi
     obtain⟨j,rfl,hi,HL0,HF9⟩:=hrel
     obtain⟨w9,rfl⟩: ∃z:World,z=wr:=⟨_,rfl⟩
     by_cases hin:j<m
     ·as_aux_lemma=>
      have d1:decide (j<m)=true:=decide_eq_true hin
      have d1':decide ((j:Int)<(m:Int))=true:=decide_eq_true (by omega)
      have hii:(j:Int)<(m:Int):=by omega
      have p5:IntKind.i64.wrap ((j:Int)+1)=((j+1:Nat):Int):=by rw[IntWalk.i64_in _ (by omega)];omega
      have ks:=HCS8.out w9 HF9.out j hin
      have kd:=HCD.out w9 HF9.out j hin
      have hsl:=HSY.out.lt j hin
      have hsn:sy j<n:=by rw[HN.out];exact hsl
      obtain⟨y,hy⟩:=lay_getD cs.length sy (fun j=>dep (lvs cs sy m) T j (T+1)) j (sy j) hsl
      have kp:=sl_same HL0.out.sl (by omega) (sy j) _ (iC_get hy)
      rw[Nat.zero_add] at kp
      have fp:=HL0.out.frozenAt (sy j)
      have hst:dps cs sy m T (j+1)=(dps cs sy m T j).set (sy j) (dep (lvs cs sy m) T j (T+1)):=rfl
      have HST:=Lib.hid hst
      obtain⟨s,hs⟩: ∃z,sy j=z:=⟨_,rfl⟩
      rw[hs] at ks kp fp hsn HST
      obtain⟨x,hx⟩: ∃z,dep (lvs cs sy m) T j (T+1)=z:=⟨_,rfl⟩
      rw[hx] at kd HST
      have hsi:(s:Int)<(n:Int):=by omega
      have HL6:Hid (Row nb 3 1 (w9.setCell ⟨nb,s,none⟩ (.int .i64 (x:Nat))) (.slice (some ⟨nb,0,none⟩) n n) n (iC (dps cs sy m T (j+1)))):=Lib.hid (by
       rw[HST.out,←iC_set]
       exact (World.ownsRow.stored HL0.out s (.int .i64 (x:Nat))).1)
      have HF7:=Lib.hid (HF9.out.setCell (p:=⟨nb,s,none⟩) (.inl (by simp)) (.int .i64 (x:Nat)))
      clear hs hx hy hst hsl HST
      go_wp2_with (fail)
      go_roundw
      case rel=>exact⟨j+1,rfl,hin,HL6,HF7⟩
      case measure=>simp[intOf]<;>omega
     ·have d1:decide (j<m)=false:=decide_eq_false hin
      have d1':decide ((j:Int)<(m:Int))=false:=decide_eq_false (by omega)
      have hie:j=m:=by omega
      rw[hie] at HL0
      clear hie
      go_wp2_with (fail)
      go_ret2
      exact⟨_,dps cs sy m T m,rfl,HL0.out.mono (by have:=HBX.out;omega),HB8.out.trans (HF9.out.below HB8.out.size (fun k hk=>by rw[List.mem_singleton.1 hk];have:=HBX.out;omega)),HMD.out⟩
end Go.Proofs.YtmdgeoalamancaaGreatDoor
