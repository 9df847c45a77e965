/- A head is written. -/
import Derived.Test.YtmdgeoalamancaaGreatDoorZAX
set_option maxRecDepth 100000
set_option linter.unusedVariables false
set_option linter.unusedSimpArgs false
namespace Go.Proofs.YtmdgeoalamancaaGreatDoor
open Go.RowKit
open Bt Can Mc Pk
def runB (tb:List Nat) (r:Rn.R):List Bool:=cb tb r.1++lsb r.2 (Rn.ext r.1)
def runsB (tb:List Nat) (rs:List Rn.R):List Bool:=rs.flatMap (runB tb)
def shB (sh:List Nat):List Bool:=sh.flatMap (fun x=>lsb x 3)
def headB (kl kd k:Nat) (tb sh:List Nat) (rs:List Rn.R):List Bool:=lsb (kl-257) 5++(lsb (kd-1) 5++(lsb (k-4) 4++(shB sh++runsB tb rs)))
theorem runsB_snoc (tb:List Nat) {rs:List Rn.R} {i:Nat} {r:Rn.R} (h:rs[i]? =some r):runsB tb (rs.take (i+1))=runsB tb (rs.take i)++runB tb r:=by
 unfold runsB
 rw[List.take_add_one,h,List.flatMap_append]
 simp
theorem shB_snoc {sh:List Nat} {i x:Nat} (h:sh[i]? =some x):shB (sh.take (i+1))=shB (sh.take i)++lsb x 3:=by
 unfold shB
 rw[List.take_add_one,h,List.flatMap_append]
 simp
theorem shB_len: ∀sh:List Nat,(shB sh).length=3*sh.length
 | []=>rfl
 |x::sh=>by
  have:=shB_len sh
  unfold shB at this ⊢
  rw[List.flatMap_cons,List.length_append,lsb_len,this,List.length_cons]
  omega
theorem ext_le7 (s:Nat):Rn.ext s≤7:=by unfold Rn.ext;split<;>(try split)<;>(try split)<;>omega
theorem runB_len {tb:List Nat} (h: ∀x∈tb,x≤15) (r:Rn.R):(runB tb r).length≤22:=by
 have h1:=len_le (s:=r.1) h
 have h2:=ext_le7 r.1
 unfold runB
 rw[List.length_append,cb_len,lsb_len]
 omega
theorem runsB_len {tb:List Nat} (h: ∀x∈tb,x≤15): ∀rs:List Rn.R,(runsB tb rs).length≤22*rs.length
 | []=>Nat.le_refl _
 |r::rs=>by
  have ih:=runsB_len h rs
  have h1:=runB_len h r
  unfold runsB at ih ⊢
  rw[List.flatMap_cons,List.length_append,List.length_cons]
  omega
def SlB (F:List Nat) (w:World) (size:Nat) (v:Value) (n:Nat) (cs:List Value):Prop:= ∀W,Fr F w W→Sl W W.heap.size size v n cs
theorem SlB.step {F F':List Nat} {w w':World} {size n:Nat} {cs:List Value} {v:Value} (h:SlB F w size v n cs) (hf:Fr F w w') (hn:New F F' w.heap.size):SlB F' w' size v n cs:=fun W hW=>h W (Wr.step hf hn hW)
set_option maxHeartbeats 16000000 in
theorem hput_any (F:List Nat) (wb n kl kd k:Nat) (S:List Bool) (rs:List Rn.R) (tb sh:List Nat) (a0 a1 v2 v3:Value) (b0 b1:Option Addr) (c0 c1:Nat) (w:World) (ha0:a0= .slice b0 kl c0) (ha1:a1= .slice b1 kd c1) (h:Wr F w wb S) (hS:S.length≤600000000) (hl1:257≤kl) (hl2:kl≤286) (hd1:1≤kd) (hd2:kd≤30) (hst:Sht rs tb sh k) (hn:n=rs.length) (hnl:n≤1000) (hok: ∀r∈rs,Rn.Ok r) (h2:SlB F w 2 v2 n (runC rs)) (h3:SlB F w 1 v3 k (iC sh)) (hG:Gl w) (hF8: ∀k∈F,8≤k):Calls Tryz.prog 129 #[.agg #[a0,a1,v2,v3],.pointer (some ⟨wb,0,none⟩)] w (PutP F w wb (S++headB kl kd k tb sh rs)):=by
 subst ha0 ha1
 obtain⟨a2,c2,rfl,_⟩:=(h2 w (Fr.refl _ _)).form
 obtain⟨a3,c3,rfl,_⟩:=(h3 w (Fr.refl _ _)).form
 have hk4:=hst.k4
 have hk19:=hst.k19
 have HLT:=Lib.hid (And.intro h.lt hF8)
 have HG:=Lib.hid hG
 have HST:=Lib.hid hst
 have H2:=Lib.hid h2
 have H3:=Lib.hid h3
 have HO:=Lib.hid (And.intro hn hok)
 obtain⟨wa,hwa⟩: ∃z:World,z=w.alloc (.cells #[.slice b0 kl c0,.slice b1 kd c1,.slice a2 n c2,.slice a3 k c3] 233):=⟨_,rfl⟩
 have HOH:Hid (Own wa w.heap.size [.slice b0 kl c0,.slice b1 kd c1,.slice a2 n c2,.slice a3 k c3]):=Lib.hid (by rw[hwa];exact Own.new_at w _ _ _ rfl)
 have hba:Below w.heap.size w wa:=by rw[hwa];exact (Below.refl _ _).alloc (Nat.le_refl _) _
 have hza:w.heap.size<wa.heap.size:=by rw[hwa];simp
 have HBA:=Lib.hid hba
 obtain⟨x1,hx1⟩: ∃z,kl-257=z:=⟨_,rfl⟩
 obtain⟨x2,hx2⟩: ∃z,kd-1=z:=⟨_,rfl⟩
 obtain⟨x3,hx3⟩: ∃z,k-4=z:=⟨_,rfl⟩
 have q1:IntKind.i64.wrap ((kl:Int)-257)=(x1:Int):=by rw[IntWalk.i64_in _ (by omega)];omega
 have q2:IntKind.i64.wrap ((kd:Int)-1)=(x2:Int):=by rw[IntWalk.i64_in _ (by omega)];omega
 have q3:IntKind.i64.wrap ((k:Int)-4)=(x3:Int):=by rw[IntWalk.i64_in _ (by omega)];omega
 have y1:IntKind.u32.wrap (x1:Int)=(x1:Int):=u32_wrap x1 (by omega)
 have y2:IntKind.u32.wrap (x2:Int)=(x2:Int):=u32_wrap x2 (by omega)
 have y3:IntKind.u32.wrap (x3:Int)=(x3:Int):=u32_wrap x3 (by omega)
 have HEQ:Hid (headB kl kd k tb sh rs=lsb x1 5++(lsb x2 5++(lsb x3 4++(shB sh++runsB tb rs)))):=Lib.hid (by unfold headB;rw[hx1,hx2,hx3])
 have hxl:x1<4294967296∧x2<4294967296∧x3<4294967296:=by omega
 have HWA:=Lib.hid (h.fr (Fr.of_below (F:=[]) hba) (fun _ _ hm=>by cases hm))
 have HNF:Hid (w.heap.size ∉ F):=Lib.hid (fun hm=>by have:=(h.lt _ hm).2;omega)
 clear h hst h2 h3 hn hok hG hF8 hba hx1 hx2 hx3
 go_enter Tryz.func129,Tryz.ntmps129
 go_upto_region 1 with (fail)
 rw[←hwa]
 clear hwa
 obtain⟨hb,hhb⟩: ∃z,w.heap.size=z:=⟨_,rfl⟩
 have HHB:=Lib.hid hhb
 rw[hhb] at HOH hza HNF ⊢
 clear hhb
 have m0:=HOH.out.1 0 _ rfl
 have HP1:=Lib.hid (put_any F wb S x1 5 wa HWA.out hxl.1 (by omega) (by omega))
 go_wp2_with (fail)
 refine HP1.out.mono ?_
 rintro e w1 ⟨rfl,F1,hw1,hf1,hn1⟩
 have HW1:=Lib.hid hw1
 have HFA1:=Lib.hid hf1
 have HNA1:=Lib.hid hn1
 have HO1:=Lib.hid (HOH.out.fr hf1 hza HNF.out)
 have hz1:hb<w1.heap.size:=Nat.lt_of_lt_of_le hza hf1.size
 have HNF1:Hid (hb ∉ F1):=Lib.hid (fun hm=>by rcases hn1 hb hm with h|h;exact HNF.out h;omega)
 clear hw1 hf1 hn1 m0 HP1
 have m1:=HO1.out.1 1 _ rfl
 have HP2:=Lib.hid (put_any F1 wb (S++lsb x1 5) x2 5 w1 HW1.out hxl.2.1 (by omega) (by rw[List.length_append,lsb_len];omega))
 go_wp2_with (fail)
 refine HP2.out.mono ?_
 rintro e w2 ⟨rfl,F2,hw2,hf2,hn2⟩
 have HW2:=Lib.hid hw2
 have HFA2:=Lib.hid (Wr.step HFA1.out HNA1.out hf2)
 have HNA2:=Lib.hid (HNA1.out.trans hn2 HFA1.out.size)
 have HO2:=Lib.hid (HO1.out.fr hf2 hz1 HNF1.out)
 have hz2:hb<w2.heap.size:=Nat.lt_of_lt_of_le hz1 hf2.size
 have HNF2:Hid (hb ∉ F2):=Lib.hid (fun hm=>by rcases hn2 hb hm with h|h;exact HNF1.out h;omega)
 clear hw2 hf2 hn2 m1 HP2 HW1 HFA1 HNA1 HO1 HNF1
 have m3:=HO2.out.1 3 _ rfl
 have HP3:=Lib.hid (put_any F2 wb (S++lsb x1 5++lsb x2 5) x3 4 w2 HW2.out hxl.2.2 (by omega) (by rw[List.length_append,List.length_append,lsb_len,lsb_len];omega))
 go_wp2_with (fail)
 refine HP3.out.mono ?_
 rintro e w3 ⟨rfl,F3,hw3,hf3,hn3⟩
 obtain⟨S3,hS3⟩: ∃z,S++lsb x1 5++lsb x2 5++lsb x3 4=z:=⟨_,rfl⟩
 have hS3l:S3.length≤600000014:=by rw[←hS3,List.length_append,List.length_append,List.length_append,lsb_len,lsb_len,lsb_len];omega
 rw[hS3] at hw3
 have HW3:=Lib.hid hw3
 have hf03:Fr F wa w3:=Wr.step HFA2.out HNA2.out hf3
 have hf0:Fr F w w3:=(Fr.of_below (F:=F) HBA.out).trans hf03 (fun x hx _=>hx)
 have HF3:=Lib.hid hf0
 have HN3:Hid (New F F3 w.heap.size):=Lib.hid (fun k hk=>((HNA2.out.trans hn3 HFA2.out.size) k hk).imp id (fun h=>Nat.le_trans HBA.out.size h))
 have HO3:=Lib.hid (HO2.out.fr hf3 hz2 HNF2.out)
 have hz3:hb<w3.heap.size:=Nat.lt_of_lt_of_le hz2 hf3.size
 have HNF3:Hid (hb ∉ F3):=Lib.hid (fun hm=>by rcases hn3 hb hm with h|h;exact HNF2.out h;omega)
 have HS3:=Lib.hid hS3
 clear hw3 hf3 hn3 hf03 hf0 m3 HP3 HW2 HFA2 HNA2 HO2 HNF2 hS3
 have m3:=HO3.out.1 3 _ rfl
 go_upto_region 5 with (fail)
 clear m3
 go_loopw [35] (fun u wr=> ∃(i:Nat) (G:List Nat),u= .int .i64 (i:Nat)∧i≤k∧Hid (Wr G wr wb (S3++shB (sh.take i)))∧Hid (Fr F w wr)∧Hid (New F G w.heap.size)∧Hid (hb ∉ G)∧Hid (Own wr hb [.slice b0 kl c0,.slice b1 kd c1,.slice a2 n c2,.slice a3 k c3])∧hb<wr.heap.size) (fun u _=>k-(intOf u).toNat)
 case atStart=>exact⟨0,F3,rfl,Nat.zero_le _,Lib.hid (by rw[List.take_zero];show Wr F3 w3 wb (S3++[]);rw[List.append_nil];exact HW3.out),HF3,HN3,HNF3,HO3,hz3⟩
 case round=>
  clear HW3 HF3 HN3 HNF3 HO3 hz3
  obtain⟨i,G,rfl,hi,HW,HF,HN,HNF,HO',hzr⟩:=hrel
  obtain⟨wo,rfl⟩: ∃z:World,z=wr:=⟨_,rfl⟩
  have hlen:(S3++shB (sh.take i)).length≤600000100:=by rw[List.length_append,shB_len,List.length_take];omega
  by_cases hlt:i<k
  ·as_aux_lemma=>
   have e1:decide (i<k)=true:=decide_eq_true hlt
   have e1':decide ((i:Int)<(k:Int))=true:=decide_eq_true (by omega)
   have p3:IntKind.i64.wrap ((i:Int)+1)=((i+1:Nat):Int):=by rw[IntWalk.i64_in _ (by omega)];omega
   have hli:(i:Int)<(k:Int):=by omega
   obtain⟨x,hx⟩: ∃x,sh[i]? =some x:=⟨_,List.getElem?_eq_getElem (by rw[HST.out.shlen];exact hlt)⟩
   obtain⟨b,off,rfl,hc⟩:=sl_cells (H3.out wo HF.out) (by omega)
   have ca:=hc _ _ (iC_get hx)
   have hx7:x≤7:=by
    have:=HST.out.sh
    have hm:=List.mem_of_getElem? hx
    rw[this] at hm
    obtain⟨j,hj,e⟩:=List.mem_iff_getElem.1 (List.mem_of_mem_take hm)
    rw[shl_len] at hj
    have hg:=shl_get tb 19 hj
    rw[List.getElem?_eq_getElem (by rw[shl_len];exact hj),e,if_pos hj] at hg
    injection hg with hg
    rw[hg]
    have h9:=odr_l19 j hj
    rw[List.getD_eq_getElem?_getD,List.getElem?_eq_getElem (by rw[HST.out.len];exact h9)]
    exact HST.out.le _ (List.getElem_mem _)
   have HSN:=Lib.hid (shB_snoc hx)
   have yx:IntKind.u32.wrap (x:Int)=(x:Int):=u32_wrap x (by omega)
   have HP:=Lib.hid (put_any G wb (S3++shB (sh.take i)) x 3 wo HW.out (by omega) (by omega) (by omega))
   clear hx hc hx7 hlen
   go_wp2_with (fail)
   refine HP.out.mono ?_
   rintro e w5 ⟨rfl,G5,hw5,hf5,hn5⟩
   rw[List.append_assoc,←HSN.out] at hw5
   have HW5:=Lib.hid hw5
   have HF5:=Lib.hid (Wr.step HF.out HN.out hf5)
   have HN5:=Lib.hid (HN.out.trans hn5 HF.out.size)
   have HO5:=Lib.hid (HO'.out.fr hf5 hzr HNF.out)
   have HNF5:Hid (hb ∉ G5):=Lib.hid (fun hm=>by rcases hn5 hb hm with h|h;exact HNF.out h;omega)
   have hz5:hb<w5.heap.size:=Nat.lt_of_lt_of_le hzr hf5.size
   clear hw5 hf5 hn5 ca HP
   go_wp2_with (fail)
   go_roundw
   case rel=>exact⟨i+1,G5,rfl,hlt,HW5,HF5,HN5,HNF5,HO5,hz5⟩
   case measure=>simp[intOf]<;>omega
  ·have e1:decide (i<k)=false:=decide_eq_false hlt
   have e1':decide ((i:Int)<(k:Int))=false:=decide_eq_false (by omega)
   obtain rfl:i=k:=by omega
   rw[show sh.take i=sh from by rw[←HST.out.shlen,List.take_length]] at HW hlen
   have hG:Gl wo:=HG.out.fr HF.out HLT.out.2
   have HHL:=Lib.hid (hlens_any rs tb sh i wo.heap.size (.slice b0 kl c0) (.slice b1 kd c1) (.slice a2 n c2) (.slice a3 i c3) wo HST.out (H3.out wo HF.out) (Nat.le_refl _) hG)
   have m0:=HO'.out.1 0 _ rfl
   have m1:=HO'.out.1 1 _ rfl
   have m2:=HO'.out.1 2 _ rfl
   have m3:=HO'.out.1 3 _ rfl
   clear hG
   go_upto_region 9 with (fail)
   go_wp2_with (fail)
   refine HHL.out.mono ?_
   rintro e w5 ⟨v5,rfl,hr5,hb5⟩
   obtain⟨ta,tc,rfl,_⟩:=hr5.form
   have HR5:=Lib.hid hr5
   have HB5:=Lib.hid hb5
   have HCO:=Lib.hid (codes_any tb 19 (.slice ta 19 tc) w5.heap.size w5 hr5.sl (Nat.le_refl _) HST.out.len.symm (by omega) (fun x hx=>by have:=HST.out.le x hx;omega) (Nat.le_of_eq HST.out.kr))
   clear hr5 hb5 m0 m1 m2 m3 HHL
   go_upto_region 10 with (fail)
   go_wp2_with (fail)
   refine HCO.out.mono ?_
   rintro e w6 ⟨v6,rfl,hr6,hb6⟩
   obtain⟨ca,cc,rfl,_⟩:=hr6.form
   have hb06:=HB5.out.trans (hb6.mono HB5.out.size)
   have hf06:Fr G wo w6:=Fr.of_below hb06
   have hlt2:=HW.out.lt
   have HLC:Hid (LC G w6 tb 19 (.slice ta 19 tc) (.slice ca 19 cc)):=Lib.hid (fun W hW=>⟨row_keep (fun k hk=>(hlt2 k hk).2) (HR5.out.below hb6) (Nat.le_refl _) hW,row_keep (fun k hk=>(hlt2 k hk).2) hr6 HB5.out.size hW⟩)
   have HW6:=Lib.hid (HW.out.fr (Fr.of_below (F:=[]) hb06) (fun _ _ hm=>by cases hm))
   have HO6:=Lib.hid (HO'.out.below hb06 hzr)
   have hf6:Fr F w w6:=Wr.step HF.out HN.out hf06
   have HF6:=Lib.hid hf6
   have HN6:=HN
   have HL7:Hid (∀x∈tb,x≤15):=Lib.hid (fun x hx=>by have:=HST.out.le x hx;omega)
   obtain⟨S4,hS4⟩: ∃z,S3++shB sh=z:=⟨_,rfl⟩
   have HS4:=Lib.hid hS4
   rw[hS4] at HW6 hlen
   clear hr6 hb6 hb06 hf06 hlt2 hf6 HR5 HB5 HCO HW HF hS4
   have m2:=HO6.out.1 2 _ rfl
   go_upto_region 12 with (fail)
   clear m2
   go_loopw [54] (fun u wr=> ∃(j:Nat) (G1:List Nat),u= .int .i64 (j:Nat)∧j≤n∧Hid (Wr G1 wr wb (S4++runsB tb (rs.take j)))∧Hid (Fr G w6 wr)∧Hid (New G G1 w6.heap.size)) (fun u _=>n-(intOf u).toNat)
   case atStart=>exact⟨0,G,rfl,Nat.zero_le _,Lib.hid (by rw[List.take_zero];show Wr G w6 wb (S4++[]);rw[List.append_nil];exact HW6.out),Lib.hid (Fr.refl _ _),Lib.hid (New.refl _ _)⟩
   case round=>
    clear HW6
    obtain⟨j,G1,rfl,hj,HW,HF,HNG⟩:=hrel
    obtain⟨w7,rfl⟩: ∃z:World,z=wr:=⟨_,rfl⟩
    have hlen7:(S4++runsB tb (rs.take j)).length≤600030000:=by
     rw[List.length_append]
     have:=runsB_len HL7.out (rs.take j)
     rw[List.length_take] at this
     omega
    have hf07:Fr F w w7:=Wr.step HF6.out HN6.out HF.out
    by_cases hjn:j<n
    ·have d1:decide (j<n)=true:=decide_eq_true hjn
     have d2:decide ((j:Int)<(n:Int))=true:=decide_eq_true (by omega)
     have q1':IntKind.i64.wrap ((j:Int)+1)=((j+1:Nat):Int):=by rw[IntWalk.i64_in _ (by omega)];omega
     have hji:(j:Int)<(n:Int):=by omega
     obtain⟨t,ht⟩: ∃t,rs[j]? =some t:=⟨_,List.getElem?_eq_getElem (by have:=HO.out.1;omega)⟩
     have hokt:=HO.out.2 t (List.mem_of_getElem? ht)
     have hhit:=HST.out.hit t (List.mem_of_getElem? ht)
     have HSN:=Lib.hid (runsB_snoc tb ht)
     obtain⟨b,off,rfl,k0,k1⟩:=sl_run (H2.out w7 hf07) HO.out.1 ht
     obtain⟨s,x⟩:=t
     dsimp only at k0 k1 hhit
     have h18:s≤18:=hokt.1
     have hxe:x<2^Rn.ext s:=hokt.2
     have hel:=ext_le7 s
     have hx32:x<4294967296:=Nat.lt_of_lt_of_le hxe (Nat.le_trans (Nat.pow_le_pow_right (by omega) hel) (by decide))
     have hhas:Has tb s:=⟨by rw[HST.out.len];omega,hhit⟩
     have HLC1:=Lib.hid (HLC.out.step HF.out HNG.out)
     obtain⟨lb,lo,lc2,cb2,co,cc2,hv1,hv2,hk⟩:=HLC1.out.cells HST.out.len.symm hhas
     injection hv1 with hv1a _ hv1c
     injection hv2 with hv2a _ hv2c
     subst hv1a hv1c hv2a hv2c
     have hcd:=cdv_lt tb (s:=s) (len_le HL7.out)
     have hcb:=cdv_bits tb hhas.2
     have hll:=len_le (s:=s) HL7.out
     obtain⟨w8,hw8⟩: ∃q:World,q=w7.alloc (.cells #[.int .i64 (s:Nat),.int .i64 (x:Nat)] 182):=⟨_,rfl⟩
     have hb8:Below w7.heap.size w7 w8:=by rw[hw8];exact (Below.refl _ _).alloc (Nat.le_refl _) _
     have HOT:Hid (Own w8 w7.heap.size [.int .i64 (s:Nat),.int .i64 (x:Nat)]):=Lib.hid (by rw[hw8];exact Own.new_at w7 _ _ _ rfl)
     have hz8:w7.heap.size<w8.heap.size:=by rw[hw8];simp
     have HB8:=Lib.hid hb8
     have HW8:=Lib.hid (HW.out.fr (Fr.of_below (F:=[]) hb8) (fun _ _ hm=>by cases hm))
     have hkk:=hk w8 (Fr.of_below hb8)
     have HFB:=Lib.hid HW.out.lt
     obtain⟨l,hl⟩: ∃z,Can.len tb s=z:=⟨_,rfl⟩
     obtain⟨y,hy⟩: ∃z,cdv tb s=z:=⟨_,rfl⟩
     rw[hl,hy] at hkk hcb
     rw[hl] at hll
     rw[hy] at hcd
     have hcl:(cb tb s).length≤15:=by rw[cb_len,hl];exact hll
     have HPU:Hid (∀W,Below w8.heap.size w8 W→Calls Tryz.prog 51 #[.pointer (some ⟨wb,0,none⟩),.int .u32 (y:Nat),.int .i64 (l:Nat)] W fun e w'=>e= .returned (.bool true)∧ ∃F',Wr F' w' wb (S4++runsB tb (rs.take j)++cb tb s)∧Fr G1 W w'∧New G1 F' W.heap.size):=Lib.hid (fun W hW=>by
      have:=put_any G1 wb (S4++runsB tb (rs.take j)) y l W (HW8.out.fr (Fr.of_below (F:=[]) hW) (fun _ _ hm=>by cases hm)) (by omega) (by omega) (by omega)
      rw[hcb] at this
      exact this)
     have HRB:=Lib.hid (fun W=>rbits_any s h18 W)
     have hSl:(S4++runsB tb (rs.take j)++cb tb s).length≤600030100:=by rw[List.length_append];omega
     have HSL:=Lib.hid hSl
     have HXE:=Lib.hid (And.intro hx32 hel)
     have yx:IntKind.u32.wrap (x:Int)=(x:Int):=u32_wrap x hx32
     have g1:=hkk.1
     have g2:=hkk.2
     have hsi:(s:Int)<19:=by omega
     have hsn:s<19:=by omega
     obtain⟨X,hX⟩: ∃z,Rn.ext s=z:=⟨_,rfl⟩
     rw[hX] at HRB HXE
     have HEX:=Lib.hid hX
     clear ht hokt hhit hxe hel hhas hk hkk hcd hcb hll hcl hSl hl hy hlen7 hX hb8 hx32 h18
     go_upto_region 14 with (fail)
     rw[←hw8]
     clear hw8 k0 k1
     obtain⟨tk,htk⟩: ∃z,w7.heap.size=z:=⟨_,rfl⟩
     have HTK:=Lib.hid htk
     rw[htk] at HOT hz8 ⊢
     clear htk
     have k0:=HOT.out.1 0 _ rfl
     go_region_with (go_at_call 51
                     refine (HPU.out _ (Below.refl _ _).drew).mono ?_
                     rintro e w9 ⟨rfl,G9,hw9,hf9,hn9⟩
                     have HW9:=Lib.hid hw9
                     have hf89:Fr G1 w8 w9:=(Fr.of_below (F:=G1) ((Below.refl w8.heap.size w8).drew)).trans hf9 (fun x hx _=>hx)
                     have HF9:Hid (Fr G1 w7 w9):=Lib.hid ((Fr.of_below (F:=G1) HB8.out).trans hf89 (fun x hx _=>hx))
                     have HN9:Hid (New G1 G9 w7.heap.size):=Lib.hid (fun k hk=>(hn9 k hk).imp id (fun h=>Nat.le_trans HB8.out.size h))
                     have HOT9:=Lib.hid (HOT.out.fr hf89 hz8 (fun hm=>by have h1:=(HFB.out tk hm).2;have h2:=HTK.out;omega))
                     clear hw9 hf9 hn9 hf89 k0 g1 g2)
     all_goals
      have k0:=HOT9.out.1 0 _ rfl
      have k1:=HOT9.out.1 1 _ rfl
      have HPU2:Hid (∀W,Below w9.heap.size w9 W→Calls Tryz.prog 51 #[.pointer (some ⟨wb,0,none⟩),.int .u32 (x:Nat),.int .i64 (X:Nat)] W fun e w'=>e= .returned (.bool true)∧ ∃F',Wr F' w' wb (S4++runsB tb (rs.take (j+1)))∧Fr G9 W w'∧New G9 F' W.heap.size):=Lib.hid (fun W hW=>by
       have:=put_any G9 wb (S4++runsB tb (rs.take j)++cb tb s) x X W (HW9.out.fr (Fr.of_below (F:=[]) hW) (fun _ _ hm=>by cases hm)) HXE.out.1 (by have:=HXE.out.2;omega) (by have:=HSL.out;omega)
       rw[HSN.out,←List.append_assoc]
       unfold runB
       dsimp only
       rw[HEX.out,←List.append_assoc]
       exact this)
      go_upto_region 15 with (fail)
      go_region_with (first
       |(go_at_call 100
         refine (HRB.out _).mono ?_
         rintro e wq ⟨rfl,hq⟩
         subst hq)
       |(go_at_call 51
         refine (HPU2.out _ (Below.refl _ _).drew).mono ?_
         rintro e w10 ⟨rfl,G10,hw10,hf10,hn10⟩
         have HW10:=Lib.hid hw10
         have hf910:Fr G9 w9 w10:=(Fr.of_below (F:=G9) ((Below.refl w9.heap.size w9).drew)).trans hf10 (fun x hx _=>hx)
         have HF10:=Lib.hid (Wr.step HF.out HNG.out (Wr.step HF9.out HN9.out hf910))
         have HN10:Hid (New G G10 w6.heap.size):=Lib.hid (HNG.out.trans (HN9.out.trans (show New G9 G10 w9.heap.size from hn10) HF9.out.size) HF.out.size)
         clear hw10 hf10 hn10 hf910 k0 k1))
      all_goals
       go_wp2_with (fail)
       go_roundw
       case rel=>exact⟨j+1,G10,rfl,hjn,HW10,HF10,HN10⟩
       case measure=>simp[intOf]<;>omega
    ·have d1:decide (j<n)=false:=decide_eq_false hjn
     have d2:decide ((j:Int)<(n:Int))=false:=decide_eq_false (by omega)
     obtain rfl:j=n:=by omega
     rw[show rs.take j=rs from by rw[HO.out.1,List.take_length]] at HW
     have HFW:=Lib.hid hf07
     have HNW:Hid (New F G1 w.heap.size):=Lib.hid (HN6.out.trans (show New G G1 w.heap.size from fun k hk=>(HNG.out k hk).imp id (fun h=>Nat.le_trans HF6.out.size h)) (Nat.le_refl _))
     clear hf07
     go_wp2_with (fail)
     go_end0
     refine⟨rfl,G1,?_,HFW.out,HNW.out⟩
     have:=HW.out
     rw[←HS4.out,←HS3.out] at this
     rw[HEQ.out]
     simp only[List.append_assoc] at this ⊢
     exact this
end Go.Proofs.YtmdgeoalamancaaGreatDoor
