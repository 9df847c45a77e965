/- TopCodec, walked. -/
import Derived.Test.YtmdgeoalamancaaGreatDoorZBG
import Derived.Test.YtmdgeoalamancaaGreatDoorZBL
set_option maxRecDepth 100000
set_option linter.unusedVariables false
set_option linter.unusedSimpArgs false
namespace Go.Proofs.YtmdgeoalamancaaGreatDoor
open Go.RowKit
open Bt Can Mc Pk
def ByT (w:World) (e:Ending) (w':World):Prop:=e= .returned (.bool true)∧Below w.heap.size w w'
set_option maxHeartbeats 16000000 in
theorem codec_walk (n m x:Nat) (vs:List Value) (g:List Nat) (v0 v1:Value) (w:World) (hS:Sl w w.heap.size 1 v0 n vs) (hP: ∀i,i<n→ ∃sv l,vs[i]? =some sv∧Sl w w.heap.size 1 sv l.length (bC l)∧ ∀y∈l,y<256) (hU:Sl w w.heap.size 1 v1 m (bC g)) (hm:m=g.length) (hg: ∀y∈g,y<256) (hx:x<256) (hG:Gl w) (hC:Cr w):Calls Tryz.prog 3 #[v0,v1,.int .u8 (x:Nat)] w (ByT w):=by
 obtain⟨pa,pc,rfl,hpc⟩:=hS.form
 obtain⟨ua,uc,rfl,huc⟩:=hU.form
 have HAW:=Lib.hid (awake_any w)
 have HS:=Lib.hid hS
 have HP:=Lib.hid hP
 have HU:=Lib.hid hU
 have HGC:=Lib.hid (And.intro hG hC)
 have HM:=Lib.hid (And.intro hm hg)
 clear hS hP hU hG hC hm hg
 go_enter Tryz.func3,Tryz.ntmps3
 go_wp2_with (fail)
 refine HAW.out.mono ?_
 rintro e w1 ⟨rfl,hb1⟩
 have HB1:=Lib.hid hb1
 clear hb1 HAW
 by_cases hn:10<n
 ·have d1:decide (10<n)=true:=decide_eq_true hn
  have d2:decide ((10:Int)<(n:Int))=true:=decide_eq_true (by omega)
  go_wp2_with (fail)
  go_ret
  exact⟨by rfl,HB1.out⟩
 have d1:decide (10<n)=false:=decide_eq_false hn
 have d2:decide ((10:Int)<(n:Int))=false:=decide_eq_false (by omega)
 by_cases hmm:60<m
 ·have d3:decide (60<m)=true:=decide_eq_true hmm
  have d4:decide ((60:Int)<(m:Int))=true:=decide_eq_true (by omega)
  go_wp2_with (fail)
  go_ret
  exact⟨by rfl,HB1.out⟩
 have d3:decide (60<m)=false:=decide_eq_false hmm
 have d4:decide ((60:Int)<(m:Int))=false:=decide_eq_false (by omega)
 obtain⟨lv,hlv⟩: ∃z,x%10=z:=⟨_,rfl⟩
 have hlv9:lv≤9:=by omega
 have y1:(x:Int)%10=(lv:Int):=by omega
 have y2:Int.tmod (x:Int) 10=(lv:Int):=by rw[Int.tmod_eq_emod_of_nonneg (by omega)];omega
 have y3:IntKind.i64.wrap (lv:Int)=(lv:Int):=IntWalk.i64_in _ (by omega)
 have y4:IntKind.u8.wrap (lv:Int)=(lv:Int):=by show (lv:Int)%256=_;omega
 have HNC:=Lib.hid (newc_any lv w1 hlv9)
 clear hlv
 go_wp2_with (fail)
 refine HNC.out.mono ?_
 rintro e w2 ⟨cb,F1,rfl,hc2,hF1,hb2⟩
 have HC2:=Lib.hid (And.intro hc2 hF1)
 have HB2:=Lib.hid hb2
 have HNM:=Lib.hid (newm_any w2)
 clear hc2 hF1 hb2 HNC
 go_wp2_with (fail)
 refine HNM.out.mono ?_
 rintro e w3 ⟨mb,F2,rfl,hm3,hF2,hb3⟩
 have HM3:=Lib.hid (And.intro hm3 hF2)
 have HB3:=Lib.hid hb3
 clear hm3 hF2 hb3 HNM
 go_upto_region 12 with (fail)
 obtain⟨ab,hab⟩: ∃z,w3.heap.size=z:=⟨_,rfl⟩
 obtain⟨w4,hw4⟩: ∃z:World,z=(w3.alloc (.cells #[.int .u32 0,.int .i64 0] 34)).alloc (.cells #[.int .u32 0,.int .i64 0] 34):=⟨_,rfl⟩
 have hb4:Below w3.heap.size w3 w4:=by rw[hw4];exact ((Below.refl _ _).alloc (Nat.le_refl _) _).alloc (by simp) _
 have hs4:w4.heap.size=ab+2:=by rw[hw4,←hab];simp
 have hda:Dg w4 ab []:=by
  have h1:=(Own.new_at w3 [.int .u32 0,.int .i64 0] 34 ab hab.symm).below ((Below.refl (w3.alloc (.cells #[.int .u32 0,.int .i64 0] 34)).heap.size _).alloc (Nat.le_refl _) (.cells #[.int .u32 0,.int .i64 0] 34)) (by simp;omega)
  rw[hw4]
  exact h1
 have hdb:Dg w4 (ab+1) []:=by
  have h1:=Own.new_at (w3.alloc (.cells #[.int .u32 0,.int .i64 0] 34)) [.int .u32 0,.int .i64 0] 34 (ab+1) (by simp;omega)
  rw[hw4]
  exact h1
 have HQ4:Hid (Lq w w4 cb lv mb ab (ab+1) F1 F2 (.slice none 0 0) (.slice none 0 0) [] 0 [] false ⟨false,[],.block⟩ [] [] [] [] [] []):=Lib.hid (by
  have b34:=HB3.out.trans (hb4.mono HB3.out.size)
  have z1:=HB1.out.size
  have z2:=HB2.out.size
  have z3:=HB3.out.size
  have f1: ∀k∈F1,w1.heap.size≤k∧k<w2.heap.size:=fun k hk=>⟨HC2.out.2 k hk,HC2.out.1.lt k hk⟩
  have f2: ∀k∈F2,w2.heap.size≤k∧k<w3.heap.size:=fun k hk=>⟨HM3.out.2 k hk,HM3.out.1.lt k hk⟩
  have g: ∀i k,k∈[F1,F2,obk (.slice none 0 0),obk (.slice none 0 0),[ab],[ab+1]].getD i []→(i=0∧w1.heap.size≤k∧k<w2.heap.size)∨(i=1∧w2.heap.size≤k∧k<w3.heap.size)∨(i=4∧k=ab)∨(i=5∧k=ab+1):=fun i k hk=>by
   rcases i with _|_|_|_|_|_|i
   ·exact .inl ⟨rfl,f1 k hk⟩
   ·exact .inr (.inl ⟨rfl,f2 k hk⟩)
   ·simp[obk,Value.ownBlock] at hk
   ·simp[obk,Value.ownBlock] at hk
   ·exact .inr (.inr (.inl ⟨rfl,by simpa using hk⟩))
   ·exact .inr (.inr (.inr ⟨rfl,by simpa using hk⟩))
   ·simp at hk
  refine⟨HC2.out.1.fr (Fr.of_below (F:=[]) b34) (fun _ _ h=>by cases h),HM3.out.1.fr (Fr.of_below (F:=[]) hb4) (fun _ _ h=>by cases h),Row.nil,Row.nil,hda,hdb,⟨⟨fun i k hk=> ?_,fun i j k hij hk hk2=> ?_⟩,fun i k hk=> ?_,HB1.out.trans ((HB2.out.trans (b34.mono z2)).mono z1)⟩⟩
  ·have:=g i k hk;omega
  ·have:=g i k hk
   have:=g j k hk2
   omega
  ·have:=g i k hk;omega)
 rw[←hw4,hab]
 obtain⟨ob,hob⟩: ∃z,ab+1=z:=⟨_,rfl⟩
 rw[hob] at HQ4 ⊢
 have hw8:8≤w.heap.size:=HGC.out.1.sz
 clear hw4 hab hb4 hs4 hda hdb hob HC2 HM3 HB1 HB2 HB3 y1 y2 y3 y4
 go_loopw [15,11,12] (fun u vt vo wr=> ∃(i:Nat) (D F1 F2:List Nat),u= .int .i64 (i:Nat)∧i≤n∧Hid (Lq w wr cb lv mb ab ob F1 F2 vt vo D D.length [] false ⟨false,D,.block⟩ [] [] D D D [])∧Hid (D.length≤600*i∧ ∀y∈D,y<256)) (fun u _ _ _=>n-(Go.RowKit.intOf u).toNat)
 case atStart=>exact⟨0,[],F1,F2,rfl,Nat.zero_le _,HQ4,Lib.hid ⟨Nat.le_refl _,fun y hy=>by cases hy⟩⟩
 case round=>
  clear HQ4
  obtain⟨i,D,F1,F2,rfl,hi,HQ,HD⟩:=hrel
  obtain⟨vo,rfl⟩: ∃z:Value,z=u12:=⟨_,rfl⟩
  obtain⟨vt,rfl⟩: ∃z:Value,z=u11:=⟨_,rfl⟩
  obtain⟨wo,rfl⟩: ∃z:World,z=wr:=⟨_,rfl⟩
  obtain⟨N,hN⟩: ∃z,D.length=z:=⟨_,rfl⟩
  have HN:=Lib.hid hN
  have hNl:N≤600*i:=by have:=HD.out.1;omega
  by_cases hlt:i<n
  ·have d1:decide (i<n)=true:=decide_eq_true hlt
   have d2:decide ((i:Int)<(n:Int))=true:=decide_eq_true (by omega)
   have q1:IntKind.i64.wrap ((i:Int)+1)=((i+1:Nat):Int):=by rw[IntWalk.i64_in _ (by omega)];omega
   have hji:(i:Int)<(n:Int):=by omega
   obtain⟨sv,l,hsv,hsl,hlb⟩:=HP.out i hlt
   obtain⟨b,off,rfl,hcl⟩:=sl_cells HS.out (by omega)
   obtain⟨M,hM⟩: ∃z,l.length=z:=⟨_,rfl⟩
   rw[hM] at hsl
   obtain⟨sa,sc,rfl,hsc⟩:=hsl.form
   have HCL:Hid (∀W,Below w.heap.size w W→W.cell? ⟨b,off+i,none⟩=some (.slice sa M sc)):=Lib.hid (fun W hW=>sl_same (HS.out.below hW) (by omega) i _ hsv)
   have HSL:Hid (∀W,Below w.heap.size w W→Sl W W.heap.size 1 (.slice sa M sc) M (bC l)):=Lib.hid (fun W hW=>(hsl.below hW).mono hW.size)
   have HL:=Lib.hid (And.intro hM hlb)
   have k1:=HCL.out wo HQ.out.ls.bel
   clear hsv hsl hlb hM hcl
   by_cases hbig:600<M
   ·have d3:decide (600<M)=true:=decide_eq_true hbig
    have d4:decide ((600:Int)<(M:Int))=true:=decide_eq_true (by omega)
    go_wp2_with (fail)
    go_ret
    exact⟨by rfl,HQ.out.ls.bel⟩
   have d3:decide (600<M)=false:=decide_eq_false hbig
   have d4:decide ((600:Int)<(M:Int))=false:=decide_eq_false (by omega)
   obtain⟨ta,tc,rfl,_⟩:=HQ.out.tx.form
   have HT:Hid (Row 0 5 1 wo (.slice ta N tc) N (bC D)):=Lib.hid (by have:=HQ.out.tx;rwa [hN] at this)
   have HS0:=Lib.hid (HSL.out wo HQ.out.ls.bel)
   rw[hN]
   clear hN
   go_upto_region 16 with (fail)
   go_wp2_with (at_builtin;refine append_rowM (base:=0) (size:=1) (xs:=bC D) Tryz.underlying23 info_u8 rfl (by decide) rfl _ _ rfl rfl HT.out rfl HS0.out (bC_one _) ?_ ?_ ?_ ?_;omega;omega;exact Nat.zero_le _)
   intro v6 w6 hr6 hb6 hg6 hw6
   have hob6:(Value.slice ta D.length tc).ownBlock=(Value.slice ta N tc).ownBlock:=by cases ta<;>rfl
   have hf6:Fr (obk (Value.slice ta D.length tc)) wo w6:=(Fr.refl _ wo).grown hg6 (fun k hk _=>mem_obk.2 (by rw[hob6];exact hk))
   have hq6:=HQ.out.setT (v':=v6) (D':=D++l) hf6 (by rw[List.length_append,HN.out,HL.out.1,bC_app];exact hr6) (fun k hk=>by
    rcases hw6 with e|e
    ·exact .inl (mem_obk.2 (by rw[hob6,←e];exact mem_obk.1 hk))
    ·exact .inr (e k (mem_obk.1 hk)))
   have HQ6:=Lib.hid hq6
   have k1':=HCL.out w6 hq6.ls.bel
   clear k1 hr6 hb6 hg6 hw6 hf6 hq6 HQ HT HS0 d1 d2 d3 d4
   have HCW:=Lib.hid (cwrite_any F1 cb lv D.length M D l (.slice sa M sc) [] w6 HQ6.out.cm (Nat.le_refl _) (by have:=HN.out;omega) (by omega) (fun W hW=>HSL.out W (HQ6.out.ls.bel.trans (hW.below HQ6.out.ls.bel.size (fun k hk=>HQ6.out.ls.new 0 k hk)))) HL.out.1.symm)
   go_wp2_with (fail)
   refine HCW.out.mono ?_
   rintro e w7 ⟨rfl,F7,hc7,hm7⟩
   have HQ7:=Lib.hid (HQ6.out.setC hm7 hc7)
   clear k1' hc7 hm7 HCW HQ6
   have hD2:(D++l).length=N+M:=by rw[List.length_append,HN.out,HL.out.1]
   have HCS:=Lib.hid (csync_any F7 cb lv D.length (D++l) [] w7 HQ7.out.cm (by rw[List.length_append];omega) (by omega) (by rw[hD2,HN.out];omega) (fun y hy=>by
    rcases List.mem_append.1 hy with h|h
    ·exact HD.out.2 y h
    ·exact HL.out.2 y h) hlv9 (Nat.zero_le _) (HQ7.out.gl HGC.out.1) (HGC.out.2.fr (Fr.of_below (F:=[]) HQ7.out.ls.bel) (fun _ h=>by cases h)) (fun k hk=>Nat.le_trans hw8 (HQ7.out.ls.new 0 k hk)))
   have HD2:=Lib.hid hD2
   clear hD2
   go_wp2_with (fail)
   refine HCS.out.mono ?_
   rintro e w8 ⟨rfl,F8,E,hc8,hm8,hel,he8,hch⟩
   rw[List.nil_append] at hc8
   have HQ8:=Lib.hid (HQ7.out.setC hm8 hc8)
   have HE:=Lib.hid (And.intro hel (And.intro he8 hch))
   clear hc8 hm8 hel he8 hch HCS HQ7
   have HCT:=Lib.hid (ctake_any HQ8.out.cm)
   go_wp2_with (fail)
   refine HCT.out.mono ?_
   rintro e w9 ⟨v9,lb,R9,F9,rfl,hE9,hR9,hlb9,hr9,hc9,ho9,hn9,hf9⟩
   have hR0:R9=[]:=by
    have h1:=HE.out.2.1
    have h2:=congrArg List.length hE9
    rw[List.length_append,byts_len] at h2
    rw[List.length_nil] at h1
    exact List.eq_nil_of_length_eq_zero (by omega)
   subst hR0
   rw[List.append_nil] at hE9
   have hq9:=HQ8.out.setC (F':=F9) ⟨hf9,fun k hk=> .inl (hn9 k hk)⟩ hc9
   have HO9:Hid (∀k∈obk v9,k ∉ F2∧k∈F8):=Lib.hid (fun k hk=>⟨fun hk2=>HQ8.out.sepd 0 1 k (by decide) (ho9 k hk).2 hk2,(ho9 k hk).2⟩)
   obtain⟨LB,hLB⟩: ∃z,lb.length=z:=⟨_,rfl⟩
   have hLBl:LB≤200000:=by
    have h1:=HE.out.1
    rw[hE9,byts_len] at h1
    omega
   have HCH:Hid (Chn 0 ⟨false,D,.block⟩ (byts lb) ⟨false,D++l,.block⟩):=Lib.hid (by
    have h1:=HE.out.2.2 0 (by rfl)
    rwa [List.take_left,hE9] at h1)
   have HR9:=Lib.hid hr9
   have HQ9:=Lib.hid hq9
   have HMW:=Lib.hid (mwrite_any F2 mb 0 LB ⟨false,D,.block⟩ ⟨false,D++l,.block⟩ [] [] [] lb v9 w9 hq9.ma (by rw[List.append_nil];exact HCH.out) (.inl rfl) trivial rfl (by show (D++l).length≤30000;rw[HD2.out];omega) (Nat.zero_le _) (hq9.gl HGC.out.1) (fun k hk=>Nat.le_trans hw8 (hq9.ls.new 1 k hk)) (fun W hW=>by
    have:=(hr9.fr hW (fun k hk=>(HO9.out k hk).1)).sl
    rwa [hLB] at this) hLB.symm (by omega) (by decide) hlb9)
   clear hE9 hR9 hlb9 hr9 hc9 ho9 hn9 hf9 hq9 hLB HCT HQ8 HE HCH
   go_wp2_with (fail)
   refine HMW.out.mono ?_
   rintro e w10 ⟨rfl,F10,p10,c10,R10,O10,hma,hmv,hO,_,_,_,_,_,hend⟩
   obtain⟨rfl,rfl⟩:=hend rfl
   rw[List.nil_append,List.drop_left] at hO
   have hO':=hO.symm
   subst hO'
   have HQ10:=Lib.hid (HQ9.out.setM hmv hma)
   clear hma hmv hend HMW HQ9 HO9 HR9
   have HMT:=Lib.hid (mtake_any F10 w10 HQ10.out.ma)
   go_wp2_with (fail)
   refine HMT.out.mono ?_
   rintro e w11 ⟨v11,F11,rfl,hr11,hma,hno,hsub,hin,hf11,hmb⟩
   have hq11:=HQ10.out.setM (F':=F11) ⟨hf11.weak (fun x hx _=>by rw[List.mem_singleton.1 hx];exact hmb),fun k hk=> .inl (hsub k hk)⟩ hma
   have HIN:Hid (∀k∈obk v11,k∈F10):=Lib.hid hin
   have HVO:Hid (∀k∈obk v11,k ∉ obk vo):=Lib.hid (fun k hk hk2=>HQ10.out.sepd 1 3 k (by decide) (hin k hk) hk2)
   have HVD:Hid (∀k∈obk v11,k≠ab):=Lib.hid (fun k hk e=>HQ10.out.sepd 1 4 k (by decide) (hin k hk) (by rw[e];simp))
   have HR11:=Lib.hid hr11
   have HQ11:=Lib.hid hq11
   clear hr11 hma hno hsub hin hf11 hmb hq11 HMT HQ10 HIN
   obtain⟨oa,oc,rfl,_⟩:=HQ11.out.ou.form
   have HOU:Hid (Row 0 5 1 w11 (.slice oa N oc) N (bC D)):=Lib.hid (by have:=HQ11.out.ou;rwa [HN.out] at this)
   have HSR:Hid (Sl w11 w11.heap.size 1 v11 M (bC l)):=Lib.hid (by have:=HR11.out.sl;rwa [HL.out.1] at this)
   have HVO2:Hid (∀k∈obk v11,k ∉ obk (Value.slice oa N oc)):=Lib.hid (by have:=HVO.out;rwa [HN.out] at this)
   obtain⟨wa,wc,rfl,_⟩:=HSR.out.form
   rw[HN.out]
   go_wp2_with (at_builtin;refine append_rowM (base:=0) (size:=1) (xs:=bC D) Tryz.underlying23 info_u8 rfl (by decide) rfl _ _ rfl rfl HOU.out rfl HSR.out (bC_one _) ?_ ?_ ?_ ?_;omega;omega;exact Nat.zero_le _)
   intro v12 w12 hr12 hb12 hg12 hw12
   have hob12:(Value.slice oa D.length oc).ownBlock=(Value.slice oa N oc).ownBlock:=by cases oa<;>rfl
   have hf12:Fr (obk (Value.slice oa D.length oc)) w11 w12:=(Fr.refl _ w11).grown hg12 (fun k hk _=>mem_obk.2 (by rw[hob12];exact hk))
   have hf12':Fr (obk (Value.slice oa N oc)) w11 w12:=(Fr.refl _ w11).grown hg12 (fun k hk _=>mem_obk.2 hk)
   have hq12:=HQ11.out.setO (v':=v12) (D':=D++l) hf12 (by rw[List.length_append,HN.out,HL.out.1,bC_app];exact hr12) (fun k hk=>by
    rcases hw12 with e|e
    ·exact .inl (mem_obk.2 (by rw[hob12,←e];exact mem_obk.1 hk))
    ·exact .inr (e k (mem_obk.1 hk)))
   have HR12:Hid (Row 0 5 1 w12 (.slice wa M wc) M (bC l)):=Lib.hid (by
    have:=HR11.out.fr hf12' (fun k hk=>HVO2.out k hk)
    rwa [HL.out.1] at this)
   have HQ12:=Lib.hid hq12
   clear hr12 hb12 hg12 hw12 hf12 hf12' hq12 HQ11 HR11 HOU HSR HVO HVO2
   obtain⟨tb,htb⟩: ∃z,w12.heap.size=z:=⟨_,rfl⟩
   obtain⟨w13,hw13⟩: ∃z:World,z=w12.alloc (.cells #[.int .u32 0,.int .i64 0] 34):=⟨_,rfl⟩
   have hb13:Below w12.heap.size w12 w13:=by rw[hw13];exact (Below.refl _ _).alloc (Nat.le_refl _) _
   have hd13:Dg w13 tb []:=by
    have h1:=Own.new_at w12 [.int .u32 0,.int .i64 0] 34 tb htb.symm
    rw[hw13]
    exact h1
   have hz13:tb<w13.heap.size:=by rw[hw13,←htb];simp
   have hq13:=HQ12.out.below hb13
   have HQ13:=Lib.hid hq13
   have HLTQ:Hid (ab<tb∧w.heap.size≤tb):=Lib.hid ⟨by rw[←htb];exact HQ12.out.lta.1,by rw[←htb];exact HQ12.out.ls.bel.size⟩
   have HR13:=Lib.hid (HR12.out.below hb13)
   have hdw:=dwrite_any [] l M tb (.slice wa M wc) w13.heap.size w13 hd13 hz13 HR13.out.sl (Nat.le_refl _) HL.out.1.symm (by omega) (Nat.zero_le _) HL.out.2 (HQ13.out.gl HGC.out.1)
   rw[List.nil_append] at hdw
   have HDW:=Lib.hid hdw
   have HB13:=Lib.hid hb13
   have HTB:=Lib.hid htb
   clear hb13 hd13 hq13 hdw HR12 HR13
   go_upto_region 24 with (fail)
   rw[←hw13]
   clear hw13 htb
   go_wp2_with (fail)
   refine HDW.out.mono ?_
   rintro e w14 ⟨rfl,hd14,hf14⟩
   have hb14:Below w12.heap.size w12 w14:=HB13.out.trans (hf14.below HB13.out.size (fun k hk=>by rw[List.mem_singleton.1 hk,HTB.out];exact Nat.le_refl _))
   have HQ14:=Lib.hid (HQ12.out.below hb14)
   have k0:=hd14.1 0 _ rfl
   have k1:=hd14.1 1 _ rfl
   have HJN:=Lib.hid (djoin_any D l ab w14 HQ14.out.da HQ14.out.lta.1 (by rw[HL.out.1];omega) (by rw[HN.out];omega))
   clear hd14 hf14 hb14 HDW HQ12 HQ13 HB13
   go_wp2_with (fail)
   refine HJN.out.mono ?_
   rintro e w15 ⟨rfl,hd15,hf15⟩
   have hq15:=HQ14.out.setA hf15 hd15
   have HBY:Hid (∀y∈D++l,y<256):=Lib.hid (fun y hy=>by
    rcases List.mem_append.1 hy with h|h
    ·exact HD.out.2 y h
    ·exact HL.out.2 y h)
   have c1:=conv_bytes (D++l) HBY.out hq15.tx.sl
   have c2:=conv_bytes (D++l) HBY.out hq15.ou.sl
   obtain⟨sb,hsb⟩: ∃z:ByteArray,(⟨(u8L (D++l)).toArray⟩:ByteArray)=z:=⟨_,rfl⟩
   rw[hsb] at c1 c2
   have HQ15:=Lib.hid hq15
   have HDN:=Lib.hid (done_any _ w15 hq15.ma)
   clear hd15 hf15 hq15 HJN HQ14 k0 k1 hsb
   go_wp2_with (fail)
   refine HDN.out.mono ?_
   rintro e w16 ⟨rfl,rfl⟩
   clear HDN c1 c2
   have e0:(stN St.block==11)=false:=by rfl
   go_wp2_with (fail)
   go_roundw
   case rel=>exact⟨i+1,D++l,_,_,rfl,hlt,HQ15,Lib.hid ⟨by rw[HD2.out];omega,HBY.out⟩⟩
   case measure=>simp[Go.RowKit.intOf]<;>omega
  ·have d1:decide (i<n)=false:=decide_eq_false hlt
   have d2:decide ((i:Int)<(n:Int))=false:=decide_eq_false (by omega)
   have hNs:N≤6000:=by omega
   have HFI:=Lib.hid (cfinish_any F1 cb lv D.length D [] wo HQ.out.cm (Nat.le_refl _) (by omega) (by omega) HD.out.2 hlv9 (Nat.zero_le _) (HQ.out.gl HGC.out.1) (HGC.out.2.fr (Fr.of_below (F:=[]) HQ.out.ls.bel) (fun _ h=>by cases h)) (fun k hk=>Nat.le_trans hw8 (HQ.out.ls.new 0 k hk)))
   clear hN hi hNl
   go_wp2_with (fail)
   refine HFI.out.mono ?_
   rintro e w8 ⟨rfl,F8,E,hc8,hm8,hel,he8,hch⟩
   rw[List.nil_append] at hc8
   have HQ8:=Lib.hid (HQ.out.setC hm8 hc8)
   have HE:=Lib.hid (And.intro hel (And.intro he8 hch))
   clear hc8 hm8 hel he8 hch HFI HQ d1 d2
   have HCT:=Lib.hid (ctake_any HQ8.out.cm)
   go_wp2_with (fail)
   refine HCT.out.mono ?_
   rintro e w9 ⟨v9,lb0,R9,F9,rfl,hE9,hR9,hlb9,hr9,hc9,ho9,hn9,hf9⟩
   have hR0:R9=[]:=by
    have h1:=HE.out.2.1
    have h2:=congrArg List.length hE9
    rw[List.length_append,byts_len] at h2
    rw[List.length_nil] at h1
    exact List.eq_nil_of_length_eq_zero (by omega)
   subst hR0
   rw[List.append_nil] at hE9
   have hq9:=HQ8.out.setC (F':=F9) ⟨hf9,fun k hk=> .inl (hn9 k hk)⟩ hc9
   have ho9': ∀k∈obk v9,k ∉ F2:=fun k hk hk2=>HQ8.out.sepd 0 1 k (by decide) (ho9 k hk).2 hk2
   obtain⟨r0,hr0⟩: ∃z,lb0.length=z:=⟨_,rfl⟩
   have hr0l:r0≤200000:=by
    have h1:=HE.out.1
    rw[hE9,byts_len] at h1
    omega
   have HSB0:Hid (SlB F2 w9 1 v9 r0 (bC lb0)):=Lib.hid (fun W hW=>by
    have:=(hr9.fr hW ho9').sl
    rwa [hr0] at this)
   have HCH0:Hid (Chn 0 ⟨false,D,.block⟩ (byts lb0) ⟨true,D,.ended⟩∧0<r0):=Lib.hid (by
    have h1:=HE.out.2.2 0 rfl
    rw[List.take_length,hE9] at h1
    refine⟨h1,?_⟩
    rcases Nat.eq_zero_or_pos r0 with h0|h0
    ·rw[h0] at hr0
     rw[List.eq_nil_of_length_eq_zero hr0] at h1
     exact absurd rfl (chn_ne h1 rfl rfl)
    ·exact h0)
   have HLB0:Hid (∀y∈lb0,y<256):=Lib.hid hlb9
   have HR0:=Lib.hid hr0
   have HQ9:=Lib.hid hq9
   obtain⟨ra0,rc0,hv9,_⟩:=(HSB0.out w9 (Fr.refl _ _)).form
   subst hv9
   clear hE9 hR9 hlb9 hr9 hc9 ho9 hn9 hf9 hq9 ho9' hr0 HCT HQ8 HE
   go_upto_region 31 with (fail)
   go_loopw [19,18] (fun u vl wr=> ∃(j r:Nat) (lb F2:List Nat) (p:Nat) (c:Cfg) (R:List Bool) (ra:Option Addr) (rc:Nat),u= .int .i64 (j:Nat)∧vl= .slice ra r rc∧j+r≤200000∧Hid (Lq w wr cb lv mb ab ob F9 F2 vt vo [] 0 [] true c R [] D D D [])∧Hid (SlB F2 wr 1 (.slice ra r rc) r (bC lb))∧Hid (Chn p c (R++byts lb) ⟨true,D,.ended⟩∧(p+R.length)%8=0∧Al p c.st∧c.T=D∧R.length+8*r≤1600000∧(r=0→c=⟨true,D,.ended⟩∧R=[]))∧Hid (lb.length=r)∧Hid (∀y∈lb,y<256)) (fun _ vl _=>lenOf vl)
   case atStart=>exact⟨0,r0,lb0,F2,0,⟨false,D,.block⟩,[],ra0,rc0,rfl,rfl,by omega,HQ9,HSB0,Lib.hid ⟨HCH0.out.1,rfl,trivial,rfl,by show 0+8*r0≤_;omega,fun h=>by have:=HCH0.out.2;omega⟩,HR0,HLB0⟩
   case round=>
    clear HQ9 HSB0 HCH0 HR0 HLB0 hr0l
    obtain⟨j,r,lb,F2,p,c,R,ra,rc,rfl,rfl,hjr,HQ,HSB,HCH,HR,HLB⟩:=hrel
    obtain⟨wo,rfl⟩: ∃z:World,z=wr:=⟨_,rfl⟩
    have hrc:r≤rc:=by
     obtain⟨_,_,e,h⟩:=(HSB.out wo (Fr.refl _ _)).form
     injection e with _ _ e3
     omega
    have q1:IntKind.i64.wrap ((j:Int)+1)=((j+1:Nat):Int):=by rw[IntWalk.i64_in _ (by omega)];omega
    by_cases hpos:0<r
    ·have d1:decide (0<r)=true:=decide_eq_true hpos
     have d2:decide ((0:Int)<(r:Int))=true:=decide_eq_true (by omega)
     by_cases hj:j<m
     ·have d3:decide (j<m)=true:=decide_eq_true hj
      have d4:decide ((j:Int)<(m:Int))=true:=decide_eq_true (by omega)
      have hji:(j:Int)<(m:Int):=by omega
      obtain⟨y,hy⟩: ∃y,g[j]? =some y:=⟨_,List.getElem?_eq_getElem (by rw[←HM.out.1];exact hj)⟩
      have hy256:=HM.out.2 y (List.mem_of_getElem? hy)
      obtain⟨ub,uoff,rfl,_⟩:=sl_cells HU.out (by omega)
      have k1:=sl_same (HU.out.below HQ.out.ls.bel) (by omega) j _ (bC_get hy)
      obtain⟨z4,hz4⟩: ∃z,y%4=z:=⟨_,rfl⟩
      have y1:(y:Int)%4=(z4:Int):=by omega
      have y2:Int.tmod (y:Int) 4=(z4:Int):=by rw[Int.tmod_eq_emod_of_nonneg (by omega)];omega
      have y3:IntKind.i64.wrap (z4:Int)=(z4:Int):=IntWalk.i64_in _ (by omega)
      have y4:IntKind.u8.wrap (z4:Int)=(z4:Int):=by show (z4:Int)%256=_;omega
      obtain⟨z5,hz5⟩: ∃z,1+z4=z:=⟨_,rfl⟩
      have y5:IntKind.i64.wrap (1+(z4:Int))=(z5:Int):=by rw[IntWalk.i64_in _ (by omega)];omega
      obtain⟨K,hK⟩: ∃z,min r z5=z:=⟨_,rfl⟩
      have hK1:1≤K:=by omega
      have hK2:K≤r:=by omega
      have y6:min (r:Int) (z5:Int)=(K:Int):=by omega
      have y7:(if (z5:Int)<(r:Int) then (z5:Int) else (r:Int))=(K:Int):=by split<;>omega
      have y8:(if (r:Int)<(z5:Int) then (r:Int) else (z5:Int))=(K:Int):=by split<;>omega
      have y9:(if (r:Int)≤(z5:Int) then (r:Int) else (z5:Int))=(K:Int):=by split<;>omega
      have y10:(if (z5:Int)≤(r:Int) then (z5:Int) else (r:Int))=(K:Int):=by split<;>omega
      have y11:(if z5<r then (z5:Int) else (r:Int))=(K:Int):=by split<;>omega
      have y12:(if r<z5 then (r:Int) else (z5:Int))=(K:Int):=by split<;>omega
      have y13:(if r≤z5 then (r:Int) else (z5:Int))=(K:Int):=by split<;>omega
      clear hy hy256 hz4 hz5 hK
      go_upto_region 36 with (fail)
      obtain⟨ha,hc,hhs,hht⟩:=subs_h 23 Tryz.underlying23 szU8 (a:=ra) hrc hK2
      obtain⟨na,nc,hns,hnt⟩:=subs_l 23 Tryz.underlying23 szU8 (a:=ra) hrc hK2
      obtain⟨r2,hr2⟩: ∃z,r-K=z:=⟨_,rfl⟩
      rw[hr2] at hns hnt
      have hlk:(lb.take K).length=K:=by rw[List.length_take,HR.out];omega
      have hld:(lb.drop K).length=r2:=by rw[List.length_drop,HR.out];omega
      have HSH:Hid (SlB F2 wo 1 (.slice ha K hc) K (bC (lb.take K))):=Lib.hid (fun W hW=>by
       have:=hht W _ _ (HSB.out W hW)
       rwa [Nat.mul_one,bC_take] at this)
      have HST:Hid (SlB F2 wo 1 (.slice na r2 nc) r2 (bC (lb.drop K))):=Lib.hid (fun W hW=>by
       have:=hnt W _ _ (HSB.out W hW)
       rwa [Nat.mul_one,bC_drop] at this)
      have HMW:=Lib.hid (mwrite_any F2 mb p K c ⟨true,D,.ended⟩ R (byts (lb.drop K)) [] (lb.take K) (.slice ha K hc) wo HQ.out.ma (by rw[List.append_assoc,←byts_app,List.take_append_drop];exact HCH.out.1) (.inr rfl) HCH.out.2.2.1 HCH.out.2.1 (by show D.length≤30000;rw[HN.out];omega) (Nat.zero_le _) (HQ.out.gl HGC.out.1) (fun k hk=>Nat.le_trans hw8 (HQ.out.ls.new 1 k hk)) HSH.out hlk.symm (by omega) (by have:=HCH.out.2.2.2.2.1;omega) (fun y hy=>HLB.out y (List.mem_of_mem_take hy)))
      have HLK:=Lib.hid (And.intro hlk hld)
      have HR2:=Lib.hid hr2
      clear hht hnt hlk hld HSH hr2
      go_wp2_with (fail)
      refine HMW.out.mono ?_
      rintro e w2 ⟨rfl,F3,p3,c3,R3,O3,hma,hmv,hO,hch,h8,hal,⟨l3,hl3⟩,hRb,hend⟩
      have hT3:c3.T=D:=by
       have h1:=pot_chn hch
       have h2:pot (⟨true,D,.ended⟩:Cfg)=D.length:=rfl
       have h3:c3.T.length≤pot c3:=Nat.le_add_right _ _
       rw[HCH.out.2.2.2.1] at hl3
       rw[hl3,List.length_append] at h3
       have h4:l3=[]:=List.eq_nil_of_length_eq_zero (by omega)
       rw[hl3,h4,List.append_nil]
      have hO3:O3=[]:=by rw[hO,hT3,HCH.out.2.2.2.1,List.drop_length,List.nil_append]
      subst hO3
      have HQ3:=Lib.hid (HQ.out.setM hmv hma)
      have HCH3:Hid (Chn p3 c3 (R3++byts (lb.drop K)) ⟨true,D,.ended⟩∧(p3+R3.length)%8=0∧Al p3 c3.st∧c3.T=D∧R3.length+8*r2≤1600000∧(r2=0→c3=⟨true,D,.ended⟩∧R3=[])):=Lib.hid ⟨hch,h8,hal,hT3,by have:=HCH.out.2.2.2.2.1;have:=HR2.out;rw[HLK.out.1] at hRb;omega,fun h0=>hend (by
       have:=HLK.out.2
       rw[h0] at this
       rw[List.eq_nil_of_length_eq_zero this]
       rfl)⟩
      have HST3:Hid (SlB F3 w2 1 (.slice na r2 nc) r2 (bC (lb.drop K))):=Lib.hid (fun W hW=>HST.out W (hmv.1.trans hW (fun x hx hlt=>by
       rcases hmv.2 x hx with h|h
       ·exact h
       ·omega)))
      clear hma hmv hO hch h8 hal hl3 hRb hend hT3 HMW HST
      go_wp2_with (fail)
      go_roundw
      case rel=>exact⟨j+1,r2,lb.drop K,F3,p3,c3,R3,na,nc,rfl,rfl,by have:=HR2.out;omega,HQ3,HST3,HCH3,Lib.hid HLK.out.2,Lib.hid (fun y hy=>HLB.out y (List.mem_of_mem_drop hy))⟩
      case measure=>
       have h2:=HR2.out
       show r2<r
       omega
     ·have d3:decide (j<m)=false:=decide_eq_false hj
      have d4:decide ((j:Int)<(m:Int))=false:=decide_eq_false (by omega)
      have hK1:1≤r:=by omega
      have hK2:r≤r:=Nat.le_refl _
      go_upto_region 36 with (fail)
      obtain⟨ha,hc,hhs,hht⟩:=subs_h 23 Tryz.underlying23 szU8 (a:=ra) hrc hK2
      obtain⟨na,nc,hns,hnt⟩:=subs_l 23 Tryz.underlying23 szU8 (a:=ra) hrc hK2
      obtain⟨r2,hr2⟩: ∃z,r-r=z:=⟨_,rfl⟩
      rw[hr2] at hns hnt
      have hlk:(lb.take r).length=r:=by rw[List.length_take,HR.out];omega
      have hld:(lb.drop r).length=r2:=by rw[List.length_drop,HR.out];omega
      have HSH:Hid (SlB F2 wo 1 (.slice ha r hc) r (bC (lb.take r))):=Lib.hid (fun W hW=>by
       have:=hht W _ _ (HSB.out W hW)
       rwa [Nat.mul_one,bC_take] at this)
      have HST:Hid (SlB F2 wo 1 (.slice na r2 nc) r2 (bC (lb.drop r))):=Lib.hid (fun W hW=>by
       have:=hnt W _ _ (HSB.out W hW)
       rwa [Nat.mul_one,bC_drop] at this)
      have HMW:=Lib.hid (mwrite_any F2 mb p r c ⟨true,D,.ended⟩ R (byts (lb.drop r)) [] (lb.take r) (.slice ha r hc) wo HQ.out.ma (by rw[List.append_assoc,←byts_app,List.take_append_drop];exact HCH.out.1) (.inr rfl) HCH.out.2.2.1 HCH.out.2.1 (by show D.length≤30000;rw[HN.out];omega) (Nat.zero_le _) (HQ.out.gl HGC.out.1) (fun k hk=>Nat.le_trans hw8 (HQ.out.ls.new 1 k hk)) HSH.out hlk.symm (by omega) (by have:=HCH.out.2.2.2.2.1;omega) (fun y hy=>HLB.out y (List.mem_of_mem_take hy)))
      have HLK:=Lib.hid (And.intro hlk hld)
      have HR2:=Lib.hid hr2
      clear hht hnt hlk hld HSH hr2
      go_wp2_with (fail)
      refine HMW.out.mono ?_
      rintro e w2 ⟨rfl,F3,p3,c3,R3,O3,hma,hmv,hO,hch,h8,hal,⟨l3,hl3⟩,hRb,hend⟩
      have hT3:c3.T=D:=by
       have h1:=pot_chn hch
       have h2:pot (⟨true,D,.ended⟩:Cfg)=D.length:=rfl
       have h3:c3.T.length≤pot c3:=Nat.le_add_right _ _
       rw[HCH.out.2.2.2.1] at hl3
       rw[hl3,List.length_append] at h3
       have h4:l3=[]:=List.eq_nil_of_length_eq_zero (by omega)
       rw[hl3,h4,List.append_nil]
      have hO3:O3=[]:=by rw[hO,hT3,HCH.out.2.2.2.1,List.drop_length,List.nil_append]
      subst hO3
      have HQ3:=Lib.hid (HQ.out.setM hmv hma)
      have HCH3:Hid (Chn p3 c3 (R3++byts (lb.drop r)) ⟨true,D,.ended⟩∧(p3+R3.length)%8=0∧Al p3 c3.st∧c3.T=D∧R3.length+8*r2≤1600000∧(r2=0→c3=⟨true,D,.ended⟩∧R3=[])):=Lib.hid ⟨hch,h8,hal,hT3,by have:=HCH.out.2.2.2.2.1;have:=HR2.out;rw[HLK.out.1] at hRb;omega,fun h0=>hend (by
       have:=HLK.out.2
       rw[h0] at this
       rw[List.eq_nil_of_length_eq_zero this]
       rfl)⟩
      have HST3:Hid (SlB F3 w2 1 (.slice na r2 nc) r2 (bC (lb.drop r))):=Lib.hid (fun W hW=>HST.out W (hmv.1.trans hW (fun x hx hlt=>by
       rcases hmv.2 x hx with h|h
       ·exact h
       ·omega)))
      clear hma hmv hO hch h8 hal hl3 hRb hend hT3 HMW HST
      go_wp2_with (fail)
      go_roundw
      case rel=>exact⟨j+1,r2,lb.drop r,F3,p3,c3,R3,na,nc,rfl,rfl,by have:=HR2.out;omega,HQ3,HST3,HCH3,Lib.hid HLK.out.2,Lib.hid (fun y hy=>HLB.out y (List.mem_of_mem_drop hy))⟩
      case measure=>
       have h2:=HR2.out
       show r2<r
       omega
    ·have d1:decide (0<r)=false:=decide_eq_false hpos
     have d2:decide ((0:Int)<(r:Int))=false:=decide_eq_false (by omega)
     obtain⟨hce,hRe⟩:=HCH.out.2.2.2.2.2 (by omega)
     have hq:=HQ.out
     rw[hce,hRe] at hq
     have HQE:=Lib.hid hq
     have HDW:=Lib.hid (dwrite_any [] D D.length ob vt wo.heap.size wo hq.db hq.lta.2 hq.tx.sl (Nat.le_refl _) rfl (by have:=HN.out;omega) (Nat.zero_le _) HD.out.2 (hq.gl HGC.out.1))
     obtain⟨ta,tc,hvt,_⟩:=hq.tx.form
     subst hvt
     clear hce hRe hq HQ HSB HCH HR HLB
     go_wp2_with (fail)
     refine HDW.out.mono ?_
     rintro e w2 ⟨rfl,hd2,hf2⟩
     rw[List.nil_append] at hd2
     have HQ2:=Lib.hid (HQE.out.setB hf2 hd2)
     clear hd2 hf2 HDW HQE
     have HDN:=Lib.hid (done_any F2 w2 HQ2.out.ma)
     have e0:(stN St.ended==11)=true:=by rfl
     go_wp2_with (fail)
     refine HDN.out.mono ?_
     rintro e w3 ⟨rfl,rfl⟩
     have HMT:=Lib.hid (mtake_any F2 w3 HQ2.out.ma)
     clear HDN
     go_wp2_with (fail)
     refine HMT.out.mono ?_
     rintro e w4 ⟨v4,F4,rfl,hr4,hma,hno,hsub,hin,hf4,hmb⟩
     have HQ4:=Lib.hid (HQ2.out.setM (F':=F4) ⟨hf4.weak (fun x hx _=>by rw[List.mem_singleton.1 hx];exact hmb),fun k hk=> .inl (hsub k hk)⟩ hma)
     obtain⟨a4,c4,rfl,_⟩:=hr4.form
     clear hr4 hma hno hsub hin hf4 hmb HMT HQ2
     have HML:=Lib.hid (mlen_any F4 w4 HQ4.out.ma)
     go_wp2_with (fail)
     refine HML.out.mono ?_
     rintro e w5 ⟨rfl,rfl⟩
     clear HML
     have HS1:=Lib.hid (dsum_any D ab w5 HQ4.out.da)
     have HS2:=Lib.hid (dsum_any D ob w5 HQ4.out.db)
     have HL1:=Lib.hid (dlen_any D ab w5 HQ4.out.da)
     have HL2:=Lib.hid (dlen_any D ob w5 HQ4.out.db)
     go_wp2_with (first
      |(go_at_call 17;refine (HS1.out).mono ?_;rintro e w' ⟨rfl,rfl⟩)
      |(go_at_call 17;refine (HS2.out).mono ?_;rintro e w' ⟨rfl,rfl⟩)
      |(go_at_call 18;refine (HL1.out).mono ?_;rintro e w' ⟨rfl,rfl⟩)
      |(go_at_call 18;refine (HL2.out).mono ?_;rintro e w' ⟨rfl,rfl⟩))
     go_ret
     exact⟨by rfl,HQ4.out.ls.bel⟩
end Go.Proofs.YtmdgeoalamancaaGreatDoor
