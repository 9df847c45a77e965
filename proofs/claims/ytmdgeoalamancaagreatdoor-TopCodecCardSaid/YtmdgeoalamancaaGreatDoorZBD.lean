/- Parts are joined. -/
import Derived.Test.YtmdgeoalamancaaGreatDoorZBC
set_option maxRecDepth 100000
set_option linter.unusedVariables false
set_option linter.unusedSimpArgs false
namespace Go.Proofs.YtmdgeoalamancaaGreatDoor
open Go.RowKit
open Bt Can Mc Pk
def JoP (n np:Nat) (w:World) (e:Ending) (w':World):Prop:= ∃v' ps,e= .returned v'∧Row w.heap.size 116 3 w' v' ps.length (pcC ps)∧Ctg 0 ps n∧ps≠[]∧ps.length≤np∧Below w.heap.size w w'
set_option maxHeartbeats 16000000 in
theorem joins_any (ts:List Tk.T) (n B:Nat) (v vp:Value) (ps:List Pce) (np:Nat) (w:World) (h:Sl w B 3 v n (kC ts)) (hB:B≤w.heap.size) (hn:n=ts.length) (hl:n≤1000) (ho: ∀t∈ts,Tk.Ok t) (hp:Sl w B 3 vp np (pcC ps)) (hnp:np=ps.length) (hnpl:np≤2000) (hct:Ctg 0 ps n) (hne:ps≠[]) (hG:Gl w):Calls Tryz.prog 79 #[v,vp] w (JoP n np w):=by
 obtain⟨ta,cap,rfl,_⟩:=h.form
 obtain⟨pa,pcap,rfl,_⟩:=hp.form
 have HPO:=Lib.hid (fun (a b:Nat) (x:Int) (hab:a≤b) (hbn:b≤n) (W:World) (hW:Below w.heap.size w W)=>partOf_any ts n B a b x (.slice ta n cap) W (h.below (hW.mono hB)) (Nat.le_trans hB hW.size) hn hl ho hab hbn (hG.fr (Fr.of_below (F:=[]) hW) (fun _ h=>by cases h)))
 have HJN:=Lib.hid (fun (p q:Prt) (hp:PtOK p) (hq:PtOK q) (hpq:p.b=q.a) (hb:q.b≤1000) (W:World) (hW:Below w.heap.size w W)=>join_any p q W hp hq hpq hb (hG.fr (Fr.of_below (F:=[]) hW) (fun _ h=>by cases h)))
 have HSP:=Lib.hid (fun (W:World) (hW:Below w.heap.size w W)=>hp.below (hW.mono hB))
 have HCT:=Lib.hid (And.intro hnp (And.intro hct hne))
 clear h hn ho hp hnp hct hne hG
 go_enter Tryz.func79,Tryz.ntmps79
 go_upto_region 3 with (fail)
 go_loopw [16,5] (fun u vl wr=> ∃(i e:Nat) (qs:List Prt),u= .int .i64 (i:Nat)∧i≤np∧Hid (Ctg 0 (ps.take i) e∧Pts qs e∧e≤n∧qs.length≤i∧(0<i→qs≠[]))∧Hid (Row w.heap.size 221 321 wr vl qs.length (ptC qs))∧Hid (Below w.heap.size w wr)) (fun u _ _=>np-(intOf u).toNat)
 case atStart=>exact⟨0,0,[],rfl,Nat.zero_le _,Lib.hid ⟨by rw[List.take_zero];rfl,Pts.nil,Nat.zero_le _,Nat.le_refl _,fun h=>by omega⟩,Lib.hid Row.nil,Lib.hid (Below.refl _ _)⟩
 case round=>
  obtain⟨i,e,qs,rfl,hi,HQ,HR,HB⟩:=hrel
  obtain⟨wo,rfl⟩: ∃z:World,z=wr:=⟨_,rfl⟩
  by_cases hlt:i<np
  ·have d1:decide (i<np)=true:=decide_eq_true hlt
   have d2:decide ((i:Int)<(np:Int))=true:=decide_eq_true (by omega)
   have q1:IntKind.i64.wrap ((i:Int)+1)=((i+1:Nat):Int):=by rw[IntWalk.i64_in _ (by omega)];omega
   have hji:(i:Int)<(np:Int):=by omega
   obtain⟨t,ht⟩: ∃t,ps[i]? =some t:=⟨_,List.getElem?_eq_getElem (by have:=HCT.out.1;omega)⟩
   obtain⟨b,off,rfl,k0,k1,k2⟩:=sl_pce (HSP.out wo HB.out) HCT.out.1 ht
   have hnext:Ctg 0 (ps.take (i+1)) t.2.1∧t.1=e∧t.1≤t.2.1∧t.2.1≤n:=by
    have hc:=HCT.out.2.1
    rw[←List.take_append_drop i ps,drop_at2 ht] at hc
    obtain⟨b2,c1,c2⟩:=ctg_split hc
    have hb2:b2=e:=by
     have:=HQ.out.1
     exact ctg_end c1 this
    subst hb2
    have hm:=Ctg.mem HCT.out.2.1 t (List.mem_of_getElem? ht)
    refine⟨?_,c2.1,hm.1,hm.2⟩
    rw[List.take_add_one,ht]
    exact ctg_app c1 ⟨c2.1,c2.2.1,rfl⟩
   obtain⟨f1,g1,x1⟩:=t
   dsimp only at k0 k1 k2 hnext
   have HNX:=Lib.hid hnext
   have HPC:=Lib.hid (HPO.out f1 g1 x1 hnext.2.2.1 hnext.2.2.2)
   clear ht hnext
   obtain⟨w2,hw2⟩: ∃z:World,z=wo.alloc (.cells #[.int .i64 (f1:Nat),.int .i64 (g1:Nat),.int .i64 x1] 116):=⟨_,rfl⟩
   have hb2:Below wo.heap.size wo w2:=by rw[hw2];exact (Below.refl _ _).alloc (Nat.le_refl _) _
   have HOP:Hid (Own w2 wo.heap.size [.int .i64 (f1:Nat),.int .i64 (g1:Nat),.int .i64 x1]):=Lib.hid (by rw[hw2];exact Own.new_at wo _ _ _ rfl)
   have HB2:=Lib.hid (HB.out.trans (hb2.mono HB.out.size))
   have HR2:=Lib.hid (HR.out.below hb2)
   go_upto_region 5 with (fail)
   rw[←hw2]
   clear hw2 k0 k1 k2 hb2
   obtain⟨pb,hpb⟩: ∃z,wo.heap.size=z:=⟨_,rfl⟩
   rw[hpb] at HOP ⊢
   clear hpb
   have m0:=HOP.out.1 0 _ rfl
   have m1:=HOP.out.1 1 _ rfl
   have m2:=HOP.out.1 2 _ rfl
   obtain⟨va,vc,hvl,_⟩:=HR2.out.form
   subst hvl
   go_wp2_with (fail)
   refine (HPC.out w2 HB2.out).mono ?_
   rintro e' w3 ⟨q,rfl,hq,hqa,hqb,hb3⟩
   have HB3:=Lib.hid (HB2.out.trans (hb3.mono HB2.out.size))
   have HR3:=Lib.hid (HR2.out.below hb3)
   have HPT:Hid (Pts (qs++[q]) g1):=Lib.hid (by
    have:=HQ.out.2.1.snoc hq (by rw[hqa];exact HNX.out.2.1)
    rwa [hqb] at this)
   have hlen:=hq.len
   have hpq1:=ptC_sing q
   obtain⟨cq,hcq⟩: ∃c,ptc q=c:=⟨_,rfl⟩
   rw[hcq] at hlen hpq1
   rw[hcq]
   have HCQ:=Lib.hid hpq1
   clear hb3 m0 m1 m2 hq hqa hqb hpq1 hcq HPC
   go_wp2_with (with_reducible refine stop_bs ?_)
   refine bs_part rfl hlen ?_
   have hb34:Below w3.heap.size w3 (w3.alloc (.cells cq.toArray 221)):=(Below.refl _ _).alloc (Nat.le_refl _) _
   have HRX:=Lib.hid (HR3.out.below hb34)
   have HBX:=Lib.hid (HB3.out.trans (hb34.mono HB3.out.size))
   have HSX:Hid (Sl (w3.alloc (.cells cq.toArray 221)) (w3.heap.size+1) 321 (.slice (some ⟨w3.heap.size,0,none⟩) 1 1) 1 (ptC [q])):=Lib.hid (by rw[HCQ.out];exact Sl.new w3 321 1 cq 221 (by rw[hlen]))
   have hql:qs.length≤2000:=by have:=HQ.out.2.2.2.1;omega
   clear hb34
   go_wp2_with (at_builtin;refine append_rowM (base:=w.heap.size) (size:=321) (xs:=ptC qs) Tryz.underlying215 info_pt zero_part (by decide) rfl _ _ rfl rfl HRX.out rfl HSX.out (ptC_one _) ?_ ?_ ?_ ?_;omega;omega;exact HBX.out.size)
   intro v6 w6 hr6 hb6 hg6 hw6
   obtain⟨la6,lc6,rfl,_⟩:=hr6.form
   have HR6:Hid (Row w.heap.size 221 321 w6 (.slice la6 (qs.length+1) lc6) (qs++[q]).length (ptC (qs++[q]))):=Lib.hid (by rw[List.length_append,ptC_app];exact hr6)
   have HB6:=Lib.hid (HBX.out.trans hb6)
   have HL6:Hid ((qs++[q]).length≤i+1∧(qs++[q]).length=qs.length+1):=Lib.hid ⟨by rw[List.length_append,List.length_singleton];have:=HQ.out.2.2.2.1;omega,by rw[List.length_append,List.length_singleton]⟩
   have HNN:Hid (qs++[q]≠[]):=Lib.hid (by simp)
   clear hr6 hb6 hg6 hw6 HRX HBX HSX HR3 HB3 HR2 HB2 HOP
   go_upto_region 6 with (fail)
   go_loopw [5] (fun vl wr=> ∃qs':List Prt,Hid (Pts qs' g1∧qs'.length≤i+1∧qs'≠[])∧Hid (Row w.heap.size 221 321 wr vl qs'.length (ptC qs'))∧Hid (Below w.heap.size w wr)) (fun vl _=>lenOf vl)
   case atStart=>exact⟨_,Lib.hid ⟨HPT.out,HL6.out.1,HNN.out⟩,HR6,HB6⟩
   case round=>
    clear HR6 HB6 HL6 HNN HPT HQ HR HB hql
    obtain⟨qs7,HQ7,HR7,HB7⟩:=hrel
    obtain⟨w7,rfl⟩: ∃z:World,z=wr:=⟨_,rfl⟩
    obtain⟨n7,hn7⟩: ∃z,qs7.length=z:=⟨_,rfl⟩
    have hn7i:n7≤i+1:=by have:=HQ7.out.2.1;omega
    by_cases h2:1<n7
    ·have d3:decide (1<n7)=true:=decide_eq_true h2
     have d4:decide ((1:Int)<(n7:Int))=true:=decide_eq_true (by omega)
     obtain⟨rs,p,q,hrs,hp7,hq7,hpo,hqo,hpq,hqb,hpr⟩:=HQ7.out.1.two (by omega)
     obtain⟨g7,cap7,hv7,hrg⟩:=Row.range HR7.out HQ7.out.1.ok (by omega)
     subst hv7
     have hr8:=fun W hW=>hrg W hW _ _ hp7
     have hr9:=fun W hW=>hrg W hW _ _ hq7
     rw[hn7] at hr8 hr9 ⊢
     obtain⟨m8,hm8⟩: ∃z,n7-2=z:=⟨_,rfl⟩
     obtain⟨m9,hm9⟩: ∃z,n7-1=z:=⟨_,rfl⟩
     rw[hm8] at hr8
     rw[hm9] at hr9
     have r8:IntKind.i64.wrap ((n7:Int)-2)=((m8:Nat):Int):=by rw[IntWalk.i64_in _ (by omega)];omega
     have r9:IntKind.i64.wrap ((n7:Int)-1)=((m9:Nat):Int):=by rw[IntWalk.i64_in _ (by omega)];omega
     have l8:(m8:Int)<(n7:Int):=by omega
     have l9:(m9:Int)<(n7:Int):=by omega
     obtain⟨c8,hc8⟩: ∃c,ptc p=c:=⟨_,rfl⟩
     obtain⟨c9,hc9⟩: ∃c,ptc q=c:=⟨_,rfl⟩
     have HC8:Hid (c8.length=321∧ ∀u∈c8,u.oneCell'=true):=Lib.hid (by rw[←hc8];exact⟨hpo.len,ptc_one p⟩)
     have HC9:Hid (c9.length=321∧ ∀u∈c9,u.oneCell'=true):=Lib.hid (by rw[←hc9];exact⟨hqo.len,ptc_one q⟩)
     rw[hc8] at hr8
     rw[hc9] at hr9
     have HPQ:=Lib.hid (And.intro hrs (And.intro hpo (And.intro hqo (And.intro hpq (And.intro hqb hpr)))))
     have HCC:=Lib.hid (And.intro hc8 hc9)
     have HNM:=Lib.hid (And.intro hn7 (And.intro hm8 hm9))
     have HR8:=Lib.hid hr8
     have HR9:=Lib.hid hr9
     clear hrs hpo hqo hpq hqb hpr hc8 hc9 hn7 hm8 hm9 hr8 hr9 hrg hp7 hq7
     go_upto_region 7 with (fail)
     go_cut [8,9] from 26 to 40 (fun u8 u9 wx=> ∃z:World,z=wx∧ ∃b8 b9:Nat,u8= .pointer (some ⟨b8,0,none⟩)∧u9= .pointer (some ⟨b9,0,none⟩)∧Hid (Bk wx b8 221 c8∧Bk wx b9 221 c9∧w7.heap.size≤b8∧w7.heap.size≤b9)∧Hid (Below w7.heap.size w7 wx))
     case first=>
      refine wp_region_held_drew (S:=fun W=>Below w7.heap.size w7 W) (by kernel_rfl) (Below.refl _ _).drew (fun hb_w8=> ?_)
      generalize w7.drew=w8 at*
      refine wpAnyH_take (i:=0) (oi:={dst:=some 29,op:=Op.move (Operand.tmp 5),type:=215,pos:=_,after:=#[],guard:=none}) (v:= ?_) rfl (by kernel_rfl) (by kernel_rfl) (by kernel_rfl) (fun _ _ _ h=>h) (Or.inl ⟨by rfl,?_⟩) (by assumption) ?_
      rotate_left
      ·intro W hSw
       clear hSw
       go_simp
       try with_reducible rfl
      try simp only[Act.put,List.setIfInBounds_toArray,List.set_cons_zero,List.set_cons_succ]
      refine wpAnyH_take (i:=1) (oi:={dst:=some 30,op:=Op.move (Operand.tmp 5),type:=215,pos:=_,after:=#[],guard:=none}) (v:= ?_) rfl (by kernel_rfl) (by kernel_rfl) (by kernel_rfl) (fun _ _ _ h=>h) (Or.inl ⟨by rfl,?_⟩) (by assumption) ?_
      rotate_left
      ·intro W hSw
       clear hSw
       go_simp
       try with_reducible rfl
      try simp only[Act.put,List.setIfInBounds_toArray,List.set_cons_zero,List.set_cons_succ]
      refine wpAnyH_take (i:=2) (oi:={dst:=some 31,op:=Op.call {callee:=Callee.builtin Builtin.len,args:=#[Operand.tmp 30],argTypes:=#[215]},type:=3,pos:=_,after:=#[{on:=1,ground:=Ground.data}],guard:=none}) (v:= ?_) rfl (by kernel_rfl) (by kernel_rfl) (by kernel_rfl) (fun _ _ _ h=>h) (Or.inl ⟨by rfl,?_⟩) (by assumption) ?_
      rotate_left
      ·intro W hSw
       clear hSw
       go_simp
       try with_reducible rfl
      try simp only[Act.put,List.setIfInBounds_toArray,List.set_cons_zero,List.set_cons_succ]
      refine wpAnyH_take (i:=3) (oi:={dst:=some 32,op:=Op.binOp BinOp.sub 3 (Operand.tmp 31) (Operand.const (Value.int IntKind.i64 2)) 3,type:=3,pos:=_,after:=#[{on:=2,ground:=Ground.data}],guard:=none}) (v:= ?_) rfl (by kernel_rfl) (by kernel_rfl) (by kernel_rfl) (fun _ _ _ h=>h) (Or.inl ⟨by rfl,?_⟩) (by assumption) ?_
      rotate_left
      ·intro W hSw
       clear hSw
       go_simp
       try with_reducible rfl
      try simp only[Act.put,List.setIfInBounds_toArray,List.set_cons_zero,List.set_cons_succ]
      refine wpAnyH_take (i:=4) (oi:={dst:=some 33,op:=Op.indexAddr 215 (Operand.tmp 29) (Operand.tmp 32),type:=0,pos:=_,after:=#[{on:=0,ground:=Ground.data},{on:=3,ground:=Ground.data}],guard:=none}) (v:= ?_) rfl (by kernel_rfl) (by kernel_rfl) (by kernel_rfl) (fun _ _ _ h=>h) (Or.inl ⟨by rfl,?_⟩) (by assumption) ?_
      rotate_left
      ·intro W hSw
       clear hSw
       go_simp
       try with_reducible rfl
      try simp only[Act.put,List.setIfInBounds_toArray,List.set_cons_zero,List.set_cons_succ]
      refine wpAnyH_take (i:=5) (oi:={dst:=some 34,op:=Op.load 221 (Operand.tmp 33),type:=221,pos:=_,after:=#[{on:=4,ground:=Ground.data}],guard:=none}) (v:=_) rfl (by kernel_rfl) (by kernel_rfl) (by kernel_rfl) (fun _ _ _ h=>h) (yields_part _ rfl rfl ?_ HR8.out HC8.out.1) (by assumption) ?_
      ·rfl
      try simp only[Act.put,List.setIfInBounds_toArray,List.set_cons_zero,List.set_cons_succ]
      refine wpAnyH_take (i:=6) (oi:={dst:=some 35,op:=Op.move (Operand.tmp 5),type:=215,pos:=_,after:=#[{on:=14,ground:=Ground.gcOnly Departure.lateStores}],guard:=none}) (v:= ?_) rfl (by kernel_rfl) (by kernel_rfl) (by kernel_rfl) (fun _ _ _ h=>h) (Or.inl ⟨by rfl,?_⟩) (by assumption) ?_
      rotate_left
      ·intro W hSw
       clear hSw
       go_simp
       try with_reducible rfl
      try simp only[Act.put,List.setIfInBounds_toArray,List.set_cons_zero,List.set_cons_succ]
      refine wpAnyH_take (i:=7) (oi:={dst:=some 36,op:=Op.move (Operand.tmp 5),type:=215,pos:=_,after:=#[],guard:=none}) (v:= ?_) rfl (by kernel_rfl) (by kernel_rfl) (by kernel_rfl) (fun _ _ _ h=>h) (Or.inl ⟨by rfl,?_⟩) (by assumption) ?_
      rotate_left
      ·intro W hSw
       clear hSw
       go_simp
       try with_reducible rfl
      try simp only[Act.put,List.setIfInBounds_toArray,List.set_cons_zero,List.set_cons_succ]
      refine wpAnyH_take (i:=8) (oi:={dst:=some 37,op:=Op.call {callee:=Callee.builtin Builtin.len,args:=#[Operand.tmp 36],argTypes:=#[215]},type:=3,pos:=_,after:=#[{on:=7,ground:=Ground.data}],guard:=none}) (v:= ?_) rfl (by kernel_rfl) (by kernel_rfl) (by kernel_rfl) (fun _ _ _ h=>h) (Or.inl ⟨by rfl,?_⟩) (by assumption) ?_
      rotate_left
      ·intro W hSw
       clear hSw
       go_simp
       try with_reducible rfl
      try simp only[Act.put,List.setIfInBounds_toArray,List.set_cons_zero,List.set_cons_succ]
      refine wpAnyH_take (i:=9) (oi:={dst:=some 38,op:=Op.binOp BinOp.sub 3 (Operand.tmp 37) (Operand.const (Value.int IntKind.i64 1)) 3,type:=3,pos:=_,after:=#[{on:=8,ground:=Ground.data},{on:=14,ground:=Ground.gcOnly Departure.lateStores}],guard:=none}) (v:= ?_) rfl (by kernel_rfl) (by kernel_rfl) (by kernel_rfl) (fun _ _ _ h=>h) (Or.inl ⟨by rfl,?_⟩) (by assumption) ?_
      rotate_left
      ·intro W hSw
       clear hSw
       go_simp
       try with_reducible rfl
      try simp only[Act.put,List.setIfInBounds_toArray,List.set_cons_zero,List.set_cons_succ]
      refine wpAnyH_take (i:=10) (oi:={dst:=some 39,op:=Op.indexAddr 215 (Operand.tmp 35) (Operand.tmp 38),type:=0,pos:=_,after:=#[{on:=6,ground:=Ground.data},{on:=9,ground:=Ground.data},{on:=14,ground:=Ground.gcOnly Departure.lateStores}],guard:=none}) (v:= ?_) rfl (by kernel_rfl) (by kernel_rfl) (by kernel_rfl) (fun _ _ _ h=>h) (Or.inl ⟨by rfl,?_⟩) (by assumption) ?_
      rotate_left
      ·intro W hSw
       clear hSw
       go_simp
       try with_reducible rfl
      try simp only[Act.put,List.setIfInBounds_toArray,List.set_cons_zero,List.set_cons_succ]
      refine wpAnyH_take (i:=11) (oi:={dst:=some 40,op:=Op.load 221 (Operand.tmp 39),type:=221,pos:=_,after:=#[{on:=10,ground:=Ground.data},{on:=14,ground:=Ground.gcOnly Departure.lateStores}],guard:=none}) (v:=_) rfl (by kernel_rfl) (by kernel_rfl) (by kernel_rfl) (fun _ _ _ h=>h) (yields_part _ rfl rfl ?_ HR9.out HC9.out.1) (by assumption) ?_
      ·rfl
      try simp only[Act.put,List.setIfInBounds_toArray,List.set_cons_zero,List.set_cons_succ]
      refine wpAnyH_ready (rs:=[12,13]) (by kernel_rfl) (by simp) ?_
      refine AllReadyH.cons (o:={dst:=some 8,op:=Op.alloc 221,type:=0,pos:=_,after:=#[],guard:=none}) rfl (fun K hK=> ?_) ?_
      ·rw[if_pos (by simp[Region.wanted])]
       refine wp_alloc_part rfl ?_
       intro w8x hk8 hb2 hsz
       obtain⟨b8,he8⟩: ∃z,w8.heap.size=z:=⟨_,rfl⟩
       rw[he8] at hk8 hsz ⊢
       have hs8:b8<w8x.heap.size:=by omega
       have hn8:w7.heap.size≤b8:=by have:=hb_w8.size;omega
       have hb_w8x:=hb_w8.trans (hb2.mono hb_w8.size)
       clear hb2
       try simp only[Act.put,List.setIfInBounds_toArray,List.set_cons_zero,List.set_cons_succ]
       refine hK.out _ _ hb_w8x (fun hHeld=> ?_)
       clear hK K
       refine wpAnyH_ready (rs:=[13]) (by kernel_rfl) (by simp) ?_
       refine AllReadyH.cons (o:={dst:=some 9,op:=Op.alloc 221,type:=0,pos:=_,after:=#[],guard:=none}) rfl (fun K hK=> ?_) ?_
       ·rw[if_pos (by simp[Region.wanted])]
        refine wp_alloc_part rfl ?_
        intro w8xx hk9 hb2 hsz
        obtain⟨b9,he9⟩: ∃z,w8x.heap.size=z:=⟨_,rfl⟩
        rw[he9] at hk9 hsz ⊢
        replace hk8:=hk8.below hb2
        have hne:b8<b9:=by have:=hs8;omega
        have hs9:b9<w8xx.heap.size:=by omega
        replace hs8:b8<w8xx.heap.size:=by omega
        have hn9:w7.heap.size≤b9:=by have:=hb_w8x.size;omega
        have hb_w8xx:=hb_w8x.trans (hb2.mono hb_w8x.size)
        clear hb2
        try simp only[Act.put,List.setIfInBounds_toArray,List.set_cons_zero,List.set_cons_succ]
        refine hK.out _ _ hb_w8xx (fun hHeld=> ?_)
        clear hK K
        refine wpAnyH_ready (rs:=[14]) (by kernel_rfl) (by simp) ?_
        refine AllReadyH.cons (o:={dst:=none,op:=Op.store 221 (Operand.tmp 8) (Operand.tmp 34),type:=0,pos:=_,after:=#[{on:=12,ground:=Ground.data},{on:=5,ground:=Ground.data},{on:=0,ground:=Ground.phase},{on:=1,ground:=Ground.phase},{on:=2,ground:=Ground.phase},{on:=3,ground:=Ground.phase},{on:=4,ground:=Ground.phase},{on:=5,ground:=Ground.phase},{on:=6,ground:=Ground.textOnly Departure.lateStores},{on:=7,ground:=Ground.textOnly Departure.lateStores},{on:=8,ground:=Ground.textOnly Departure.lateStoresUnsure},{on:=9,ground:=Ground.textOnly Departure.lateStores},{on:=10,ground:=Ground.textOnly Departure.lateStores},{on:=11,ground:=Ground.textOnly Departure.lateStores},{on:=12,ground:=Ground.phase},{on:=13,ground:=Ground.phase}],guard:=none}) rfl (fun K hK=> ?_) ?_
        ·rw[if_pos (by simp[Region.wanted])]
         refine wp_store_part (bt:=221) (vs:=c8) _ _ rfl hk8 rfl rfl zpt_len HC8.out.1 HC8.out.2 ?_
         intro w8xxx hk hf hsz
         replace hk8:=hk
         replace hk9:=hk9.fr hf (by simp;omega)
         replace hs8:b8<w8xxx.heap.size:=by omega
         replace hs9:b9<w8xxx.heap.size:=by omega
         have hb_w8xxx:=hb_w8xx.trans (hf.below hb_w8xx.size (by simp;omega))
         clear hk hf
         try simp only[Act.put,List.setIfInBounds_toArray,List.set_cons_zero,List.set_cons_succ]
         refine hK.out _ _ hb_w8xxx (fun hHeld=> ?_)
         clear hK K
         refine wpAnyH_ready (rs:=[15]) (by kernel_rfl) (by simp) ?_
         refine AllReadyH.cons (o:={dst:=none,op:=Op.store 221 (Operand.tmp 9) (Operand.tmp 40),type:=0,pos:=_,after:=#[{on:=13,ground:=Ground.data},{on:=11,ground:=Ground.data},{on:=14,ground:=Ground.chain},{on:=0,ground:=Ground.phase},{on:=1,ground:=Ground.phase},{on:=2,ground:=Ground.phase},{on:=3,ground:=Ground.phase},{on:=4,ground:=Ground.phase},{on:=5,ground:=Ground.phase},{on:=6,ground:=Ground.phase},{on:=7,ground:=Ground.phase},{on:=8,ground:=Ground.phase},{on:=9,ground:=Ground.phase},{on:=10,ground:=Ground.phase},{on:=11,ground:=Ground.phase},{on:=12,ground:=Ground.phase},{on:=13,ground:=Ground.phase},{on:=14,ground:=Ground.phase}],guard:=none}) rfl (fun K hK=> ?_) ?_
         ·rw[if_pos (by simp[Region.wanted])]
          refine wp_store_part (bt:=221) (vs:=c9) _ _ rfl hk9 rfl rfl zpt_len HC9.out.1 HC9.out.2 ?_
          intro w8xxxx hk hf hsz
          replace hk9:=hk
          replace hk8:=hk8.fr hf (by simp;omega)
          replace hs9:b9<w8xxxx.heap.size:=by omega
          replace hs8:b8<w8xxxx.heap.size:=by omega
          have hb_w8xxxx:=hb_w8xxx.trans (hf.below hb_w8xxx.size (by simp;omega))
          clear hk hf
          try simp only[Act.put,List.setIfInBounds_toArray,List.set_cons_zero,List.set_cons_succ]
          refine hK.out _ _ hb_w8xxxx (fun hHeld=> ?_)
          clear hK K
          refine wpAnyH_done (by kernel_rfl) ?_ _
          go_wp2_with (fail)
          go_meet
          exact⟨_,rfl,b8,b9,rfl,rfl,Lib.hid ⟨hk8,hk9,hn8,hn9⟩,Lib.hid hb_w8xxxx⟩
         exact AllReadyH.nil
        exact AllReadyH.nil
       exact AllReadyH.nil
      refine AllReadyH.cons (o:={dst:=some 9,op:=Op.alloc 221,type:=0,pos:=_,after:=#[],guard:=none}) rfl (fun K hK=> ?_) ?_
      ·rw[if_pos (by simp[Region.wanted])]
       refine wp_alloc_part rfl ?_
       intro w8x hk9 hb2 hsz
       obtain⟨b9,he9⟩: ∃z,w8.heap.size=z:=⟨_,rfl⟩
       rw[he9] at hk9 hsz ⊢
       have hs9:b9<w8x.heap.size:=by omega
       have hn9:w7.heap.size≤b9:=by have:=hb_w8.size;omega
       have hb_w8x:=hb_w8.trans (hb2.mono hb_w8.size)
       clear hb2
       try simp only[Act.put,List.setIfInBounds_toArray,List.set_cons_zero,List.set_cons_succ]
       refine hK.out _ _ hb_w8x (fun hHeld=> ?_)
       clear hK K
       refine wpAnyH_ready (rs:=[12]) (by kernel_rfl) (by simp) ?_
       refine AllReadyH.cons (o:={dst:=some 8,op:=Op.alloc 221,type:=0,pos:=_,after:=#[],guard:=none}) rfl (fun K hK=> ?_) ?_
       ·rw[if_pos (by simp[Region.wanted])]
        refine wp_alloc_part rfl ?_
        intro w8xx hk8 hb2 hsz
        obtain⟨b8,he8⟩: ∃z,w8x.heap.size=z:=⟨_,rfl⟩
        rw[he8] at hk8 hsz ⊢
        replace hk9:=hk9.below hb2
        have hne:b9<b8:=by have:=hs9;omega
        have hs8:b8<w8xx.heap.size:=by omega
        replace hs9:b9<w8xx.heap.size:=by omega
        have hn8:w7.heap.size≤b8:=by have:=hb_w8x.size;omega
        have hb_w8xx:=hb_w8x.trans (hb2.mono hb_w8x.size)
        clear hb2
        try simp only[Act.put,List.setIfInBounds_toArray,List.set_cons_zero,List.set_cons_succ]
        refine hK.out _ _ hb_w8xx (fun hHeld=> ?_)
        clear hK K
        refine wpAnyH_ready (rs:=[14]) (by kernel_rfl) (by simp) ?_
        refine AllReadyH.cons (o:={dst:=none,op:=Op.store 221 (Operand.tmp 8) (Operand.tmp 34),type:=0,pos:=_,after:=#[{on:=12,ground:=Ground.data},{on:=5,ground:=Ground.data},{on:=0,ground:=Ground.phase},{on:=1,ground:=Ground.phase},{on:=2,ground:=Ground.phase},{on:=3,ground:=Ground.phase},{on:=4,ground:=Ground.phase},{on:=5,ground:=Ground.phase},{on:=6,ground:=Ground.textOnly Departure.lateStores},{on:=7,ground:=Ground.textOnly Departure.lateStores},{on:=8,ground:=Ground.textOnly Departure.lateStoresUnsure},{on:=9,ground:=Ground.textOnly Departure.lateStores},{on:=10,ground:=Ground.textOnly Departure.lateStores},{on:=11,ground:=Ground.textOnly Departure.lateStores},{on:=12,ground:=Ground.phase},{on:=13,ground:=Ground.phase}],guard:=none}) rfl (fun K hK=> ?_) ?_
        ·rw[if_pos (by simp[Region.wanted])]
         refine wp_store_part (bt:=221) (vs:=c8) _ _ rfl hk8 rfl rfl zpt_len HC8.out.1 HC8.out.2 ?_
         intro w8xxx hk hf hsz
         replace hk8:=hk
         replace hk9:=hk9.fr hf (by simp;omega)
         replace hs8:b8<w8xxx.heap.size:=by omega
         replace hs9:b9<w8xxx.heap.size:=by omega
         have hb_w8xxx:=hb_w8xx.trans (hf.below hb_w8xx.size (by simp;omega))
         clear hk hf
         try simp only[Act.put,List.setIfInBounds_toArray,List.set_cons_zero,List.set_cons_succ]
         refine hK.out _ _ hb_w8xxx (fun hHeld=> ?_)
         clear hK K
         refine wpAnyH_ready (rs:=[15]) (by kernel_rfl) (by simp) ?_
         refine AllReadyH.cons (o:={dst:=none,op:=Op.store 221 (Operand.tmp 9) (Operand.tmp 40),type:=0,pos:=_,after:=#[{on:=13,ground:=Ground.data},{on:=11,ground:=Ground.data},{on:=14,ground:=Ground.chain},{on:=0,ground:=Ground.phase},{on:=1,ground:=Ground.phase},{on:=2,ground:=Ground.phase},{on:=3,ground:=Ground.phase},{on:=4,ground:=Ground.phase},{on:=5,ground:=Ground.phase},{on:=6,ground:=Ground.phase},{on:=7,ground:=Ground.phase},{on:=8,ground:=Ground.phase},{on:=9,ground:=Ground.phase},{on:=10,ground:=Ground.phase},{on:=11,ground:=Ground.phase},{on:=12,ground:=Ground.phase},{on:=13,ground:=Ground.phase},{on:=14,ground:=Ground.phase}],guard:=none}) rfl (fun K hK=> ?_) ?_
         ·rw[if_pos (by simp[Region.wanted])]
          refine wp_store_part (bt:=221) (vs:=c9) _ _ rfl hk9 rfl rfl zpt_len HC9.out.1 HC9.out.2 ?_
          intro w8xxxx hk hf hsz
          replace hk9:=hk
          replace hk8:=hk8.fr hf (by simp;omega)
          replace hs9:b9<w8xxxx.heap.size:=by omega
          replace hs8:b8<w8xxxx.heap.size:=by omega
          have hb_w8xxxx:=hb_w8xxx.trans (hf.below hb_w8xxx.size (by simp;omega))
          clear hk hf
          try simp only[Act.put,List.setIfInBounds_toArray,List.set_cons_zero,List.set_cons_succ]
          refine hK.out _ _ hb_w8xxxx (fun hHeld=> ?_)
          clear hK K
          refine wpAnyH_done (by kernel_rfl) ?_ _
          go_wp2_with (fail)
          go_meet
          exact⟨_,rfl,b8,b9,rfl,rfl,Lib.hid ⟨hk8,hk9,hn8,hn9⟩,Lib.hid hb_w8xxxx⟩
         exact AllReadyH.nil
        exact AllReadyH.nil
       exact AllReadyH.nil
      exact AllReadyH.nil
     case rest=>
      obtain⟨wy,rfl,b8,b9,rfl,rfl,HBK,HBX⟩:=hcut
      have HBW:=Lib.hid (HB7.out.trans (HBX.out.mono HB7.out.size))
      have HRW:Hid (Row w.heap.size 221 321 wy (.slice (some ⟨g7,0,none⟩) n7 cap7) n7 (ptC qs7)):=Lib.hid (by have:=HR7.out.below HBX.out;rwa [HNM.out.1] at this)
      have hJ:=HJN.out p q HPQ.out.2.1 HPQ.out.2.2.1 HPQ.out.2.2.2.1 (by have:=HPQ.out.2.2.2.2.1;have:=HNX.out.2.2.2;omega) wy HBW.out
      rw[HCC.out.1,HCC.out.2] at hJ
      have HJ:=Lib.hid hJ
      have k8:c8[2]? =some (.int .i64 p.x):=by rw[←HCC.out.1];rfl
      have k9:c9[2]? =some (.int .i64 q.x):=by rw[←HCC.out.2];rfl
      obtain⟨px,hpx⟩: ∃z,p.x=z:=⟨_,rfl⟩
      obtain⟨qx,hqx⟩: ∃z,q.x=z:=⟨_,rfl⟩
      rw[hpx] at k8
      rw[hqx] at k9
      have HK:=Lib.hid (And.intro k8 k9)
      clear hpx hqx k8 k9 hJ r8 l8 r9 l9
      go_wp2_with (with_reducible refine stop_part ?_)
      refine load_part HBK.out.1 rfl HC8.out.1 ?_
      go_wp2_with (with_reducible refine stop_part ?_)
      refine load_part HBK.out.2.1 rfl HC9.out.1 ?_
      go_wp2_with (fail)
      refine HJ.out.mono ?_
      rintro e' w9 ⟨r,rfl,hr,hra,hrb,hb9⟩
      have hlr:=hr.len
      have h1r:=ptc_one r
      have k2:(ptc r)[2]? =some (.int .i64 r.x):=rfl
      have hpr1:=ptC_sing r
      obtain⟨cr,hcr⟩: ∃c,ptc r=c:=⟨_,rfl⟩
      obtain⟨rx,hrx⟩: ∃z,r.x=z:=⟨_,rfl⟩
      rw[hcr] at hlr h1r k2 hpr1
      rw[hrx] at k2
      rw[hcr]
      have HCR:=Lib.hid (And.intro hlr (And.intro h1r (And.intro k2 hpr1)))
      have HRR:=Lib.hid (And.intro hr (And.intro hra hrb))
      obtain⟨z,hz⟩: ∃z:List Value,z=(Tryz.zeroCells221).toList:=⟨_,rfl⟩
      have hzc:Tryz.zeroCells221=z.toArray:=by rw[hz]
      have HZL:Hid (z.length=321):=Lib.hid (by rw[hz,Array.length_toList];exact zero_part)
      obtain⟨w10,hw10⟩: ∃u:World,u=w9.alloc (.cells z.toArray 221):=⟨_,rfl⟩
      have hb910:Below w9.heap.size w9 w10:=by rw[hw10];exact (Below.refl _ _).alloc (Nat.le_refl _) _
      have HBA:Hid (Bk w10 w9.heap.size 221 z):=Lib.hid (by rw[hw10];exact Bk.new w9 _ z)
      have hb710:=hb9.trans (hb910.mono hb9.size)
      have HK8:=Lib.hid (HBK.out.1.below hb710)
      have HK9:=Lib.hid (HBK.out.2.1.below hb710)
      have h8lt:b8<w9.heap.size:=Nat.lt_of_lt_of_le HBK.out.1.lt hb9.size
      have h9lt:b9<w9.heap.size:=Nat.lt_of_lt_of_le HBK.out.2.1.lt hb9.size
      have HRY:=Lib.hid (HRW.out.below hb710)
      have HBY:=Lib.hid (HBW.out.trans (hb710.mono HBW.out.size))
      have HROW:Hid (∀k∈obk (.slice (some ⟨g7,0,none⟩) n7 cap7),k<w9.heap.size):=Lib.hid (fun k hk=>Nat.lt_of_lt_of_le (HRW.out.lt k (mem_obk.1 hk)).2 hb9.size)
      have hwle:w.heap.size≤w9.heap.size:=Nat.le_trans HBW.out.size hb9.size
      clear hz hb9 hb910 hb710 hr hra hrb hcr hrx hlr h1r k2 hpr1 HJ HBK
      go_wp2_with (with_reducible refine stop_partS ?_)
      rw[←hw10]
      clear hw10 hzc
      obtain⟨ba,hba⟩: ∃z,w9.heap.size=z:=⟨_,rfl⟩
      rw[hba] at HBA h8lt h9lt HROW hwle ⊢
      clear hba
      refine store_part HBA.out rfl rfl HZL.out HCR.out.1 HCR.out.2.1 ?_
      intro w11 hk11 hf11
      have HK11:=Lib.hid hk11
      have HK8':=Lib.hid (HK8.out.fr hf11 (by simp;omega))
      have HK9':=Lib.hid (HK9.out.fr hf11 (by simp;omega))
      have HR11:=Lib.hid (HRY.out.fr hf11 (fun k hk=>by have:=HROW.out k hk;simp;omega))
      have HB11:Hid (Below w.heap.size w w11):=Lib.hid (HBY.out.trans (hf11.below HBY.out.size (fun k hk=>by rw[List.mem_singleton.1 hk];exact hwle)))
      have m10:=hk11.own.1 2 _ HCR.out.2.2.1
      have m8':=HK8'.out.own.1 2 _ HK.out.1
      have m9':=HK9'.out.own.1 2 _ HK.out.2
      obtain⟨sx,hsx⟩: ∃z,IntKind.i64.wrap (px+qx)=z:=⟨_,rfl⟩
      clear hk11 hf11 HK8 HK9 HRY HBY HROW HBA HZL hwle h8lt h9lt HRW HBW HBX
      by_cases hgt:sx<rx
      ·have d5:decide (sx<rx)=true:=decide_eq_true hgt
       go_wp2_with (fail)
       go_roundw
       case rel=>exact⟨i+1,g1,qs7,rfl,by omega,Lib.hid ⟨HNX.out.1,HQ7.out.1,HNX.out.2.2.2,HQ7.out.2.1,fun _=>HQ7.out.2.2⟩,Lib.hid (by rw[HNM.out.1];exact HR11.out),HB11⟩
       case measure=>simp[intOf]<;>omega
      ·have d5:decide (sx<rx)=false:=decide_eq_false hgt
       go_upto_region 10 with (fail)
       clear m10 m8' m9' d5 hgt hsx
       have HN7C:Hid (m8≤n7∧n7≤cap7∧0<n7):=Lib.hid ⟨by have:=HNM.out.2.1;omega,by obtain⟨_,_,e,h⟩:=HR11.out.form;injection e with _ _ e3;omega,by omega⟩
       have HSLF:=Lib.hid (fun W=>slice_first (g:=g7) HN7C.out.1 HN7C.out.2.1 W)
       have HTK:=Lib.hid (Pts.cut (m:=m8) HQ7.out.1.ok HPQ.out.1 (by rw[HNM.out.1];exact HNM.out.2.1))
       have r8:IntKind.i64.wrap ((n7:Int)-2)=((m8:Nat):Int):=by rw[IntWalk.i64_in _ (by omega)];have:=HNM.out.2.1;omega
       refine Mono.region_tail 7 (by kernel_rfl) (by kernel_rfl) (by kernel_rfl) (by kernel_rfl) ?_
       simp only[List.take_succ_cons,List.take_zero]
       refine Mono.hgl_val (v:= ?v0) rfl Mono.rr (fun ρ a W hR hd hf=> ?h0) ?_
       case h0=>
        have e5:=Mono.init_get hf (t:=5) (by kernel_rfl)
        clear hd hf
        (go_simp;try with_reducible rfl)
       refine Mono.hgl_val (v:= ?v1) rfl Mono.rr (fun ρ a W hR hd hf=> ?h1) ?_
       case h1=>
        have e5:=Mono.init_get hf (t:=5) (by kernel_rfl)
        clear hd hf
        (go_simp;try with_reducible rfl)
       refine Mono.hgl_val (v:= ?v2) rfl Mono.rr (fun ρ a W hR hd hf=> ?h2) ?_
       case h2=>
        have e56:=Mono.dep_val hd hf (t:=56) (k:=1) (by kernel_rfl) rfl
        clear hd hf
        (go_simp;try with_reducible rfl)
       refine Mono.hgl_val (v:= ?v3) rfl Mono.rr (fun ρ a W hR hd hf=> ?h3) ?_
       case h3=>
        have e57:=Mono.dep_val hd hf (t:=57) (k:=2) (by kernel_rfl) rfl
        clear hd hf
        (go_simp;try with_reducible rfl)
       refine Mono.hgl_val (v:= .slice (some ⟨g7,0,none⟩) m8 cap7) rfl Mono.rr (fun ρ a W hR hd hf=> ?h4) ?_
       case h4=>
        have e55:=Mono.dep_val hd hf (t:=55) (k:=0) (by kernel_rfl) rfl
        have e58:=Mono.dep_val hd hf (t:=58) (k:=3) (by kernel_rfl) rfl
        have hsl:=HSLF.out
        clear hd hf
        (go_simp;try with_reducible rfl)
       refine Mono.hgl_val (v:= .agg cr.toArray) rfl Mono.rr (fun ρ a W hR hd hf=> ?h5) ?_
       case h5=>
        have e10:=Mono.init_get hf (t:=10) (by kernel_rfl)
        clear hd hf
        exact run_load_part rfl e10 (HK11.out.below hR) HCR.out.1
       refine Mono.hgl_pred (fun x W=> ∃g,x= .slice (some ⟨g,0,none⟩) 1 1∧Bk W g 221 cr) rfl (fun _ _ _ ⟨g,h1,h2⟩ hR=>⟨g,h1,h2.below hR⟩) (fun ρ a W hR hd hf=> ?h6) ?_
       case h6=>
        have e60:=Mono.dep_val hd hf (t:=60) (k:=5) (by kernel_rfl) rfl
        clear hd hf
        exact⟨_,_,run_bs_op rfl e60 HCR.out.1,(Below.refl _ _).alloc (Nat.le_refl _) _,_,rfl,Bk.new _ _ _⟩
       refine Mono.hgl_done rfl (by decide) (fun ρ W hR ht=> ?_)
       simp only[List.take_succ_cons,List.take_zero,List.drop_succ_cons,List.drop_zero]
       obtain⟨d6,d5,d4,d3,d2,d1,d0,_⟩:=ht
       replace d6:(fun x W=> ∃g,x= .slice (some ⟨g,0,none⟩) 1 1∧Bk W g 221 cr) (ρ 6) W:=d6
       simp only[List.length_cons,List.length_nil,Nat.reduceAdd] at d0 d1 d2 d3 d4 d5
       simp only[Mono.putAll,Nat.reduceAdd,d0,d1,d2,d3,d4,d5,Act.put,List.setIfInBounds_toArray,List.set_cons_zero,List.set_cons_succ]
       clear d0 d1 d2 d3 d4 d5
       generalize ρ 6=r6 at*
       have HRA:=Lib.hid (Row.firsts (HR11.out.below hR) HN7C.out.1 HN7C.out.2.2)
       have hra2:=HRA.out
       rw[HTK.out.1] at hra2
       have HRB:=Lib.hid hra2
       obtain⟨gn,hgn,hkn⟩:=d6
       subst hgn
       have HSA:=Lib.hid (Bk.sl1 hkn HCR.out.1)
       have HBT:=Lib.hid (HB11.out.trans (hR.mono HB11.out.size))
       have hm8l:m8≤2000:=by have:=HNM.out.2.1;omega
       clear hkn hra2 HRA
       go_wp2_with (at_builtin;refine append_rowM (base:=w.heap.size) (size:=321) (xs:=ptC rs) Tryz.underlying215 info_pt zero_part (by decide) rfl _ _ rfl rfl HRB.out rfl HSA.out HCR.out.2.1 ?_ ?_ ?_ ?_;omega;omega;exact HBT.out.size)
       intro v12 w12 hr12 hb12 hg12 hw12
       obtain⟨la12,lc12,rfl,_⟩:=hr12.form
       have HR12:Hid (Row w.heap.size 221 321 w12 (.slice la12 (m8+1) lc12) (rs++[r]).length (ptC (rs++[r]))):=Lib.hid (by rw[List.length_append,ptC_app,HCR.out.2.2.2,HTK.out.2];exact hr12)
       have HB12:=Lib.hid (HBT.out.trans hb12)
       have hm87:m8+1<n7:=by have:=HNM.out.2.1;omega
       clear hr12 hb12 hg12 hw12
       go_wp2_with (fail)
       go_roundw
       case rel=>exact⟨rs++[r],Lib.hid ⟨Pts.join (q:=q) HPQ.out.2.2.2.2.2 HRR.out.1 HRR.out.2.1 (by rw[HRR.out.2.2];exact HPQ.out.2.2.2.2.1),by rw[List.length_append,HTK.out.2];show m8+1≤_;omega,by simp⟩,HR12,HB12⟩
       case measure=>simp[lenOf]<;>omega
    ·have d3:decide (1<n7)=false:=decide_eq_false h2
     have d4:decide ((1:Int)<(n7:Int))=false:=decide_eq_false (by omega)
     obtain⟨va7,vc7,hv7,_⟩:=HR7.out.form
     rw[hn7] at hv7
     subst hv7
     have HN7:=Lib.hid hn7
     clear hn7
     go_wp2_with (fail)
     go_roundw
     case rel=>exact⟨i+1,g1,qs7,rfl,by omega,Lib.hid ⟨HNX.out.1,HQ7.out.1,HNX.out.2.2.2,HQ7.out.2.1,fun _=>HQ7.out.2.2⟩,HR7,HB7⟩
     case measure=>simp[intOf]<;>omega
  ·have d1:decide (i<np)=false:=decide_eq_false hlt
   have d2:decide ((i:Int)<(np:Int))=false:=decide_eq_false (by omega)
   have hin:i=np:=by omega
   have HPT:Hid (Pts qs n):=Lib.hid (by
    have h1:=HQ.out.1
    rw[hin,HCT.out.1,List.take_length] at h1
    have h2:=ctg_end h1 HCT.out.2.1
    have h3:=HQ.out.2.1
    rwa [h2] at h3)
   have hpos:0<np:=by
    have h1:=HCT.out.1
    have h2:0<ps.length:=List.length_pos_iff.2 HCT.out.2.2
    omega
   have HNE:Hid (qs≠[]∧qs.length≤np):=Lib.hid ⟨HQ.out.2.2.2.2 (by omega),by have:=HQ.out.2.2.2.1;omega⟩
   obtain⟨m,hm⟩: ∃z,qs.length=z:=⟨_,rfl⟩
   have hmp:0<m:=by rw[←hm];exact List.length_pos_iff.2 HNE.out.1
   have hml:m≤2000:=by have:=HNE.out.2;omega
   obtain⟨gp,capp,hvp,hrg⟩:=Row.range HR.out HPT.out.ok (by omega)
   subst hvp
   have HM:=Lib.hid hm
   rw[hm]
   have HRG:=Lib.hid hrg
   obtain⟨w13,hmk,hr13,hb13⟩:=mkP0 m wo (by omega)
   have HR13:=Lib.hid hr13
   have HB13:=Lib.hid (HB.out.trans (hb13.mono HB.out.size))
   have HW13:=Lib.hid hb13
   have HIN:=Lib.hid hin
   clear hm hrg hr13 hb13 hin
   go_upto_region 14 with (fail)
   clear hmk
   go_loopw [69,11] (fun u vl wr=> ∃k:Nat,u= .int .i64 (k:Nat)∧k≤m∧Hid (Row wo.heap.size 116 3 wr vl k (pcC (prP (qs.take k))))∧Hid (Below w.heap.size w wr)∧Hid (Below wo.heap.size wo wr)) (fun u _ _=>m-(intOf u).toNat)
   case atStart=>exact⟨0,rfl,Nat.zero_le _,HR13,HB13,HW13⟩
   case round=>
    obtain⟨k,rfl,hk,HRP,HBP,HWP⟩:=hrel
    obtain⟨wp,rfl⟩: ∃z:World,z=wr:=⟨_,rfl⟩
    by_cases hkm:k<m
    ·have d3:decide (k<m)=true:=decide_eq_true hkm
     have d4:decide ((k:Int)<(m:Int))=true:=decide_eq_true (by omega)
     have hki:(k:Int)<(m:Int):=by omega
     have q1:IntKind.i64.wrap ((k:Int)+1)=((k+1:Nat):Int):=by rw[IntWalk.i64_in _ (by omega)];omega
     obtain⟨q,hq⟩: ∃q,qs[k]? =some q:=⟨_,List.getElem?_eq_getElem (by rw[HM.out];exact hkm)⟩
     have HRQ:=Lib.hid (HRG.out wp HWP.out k q hq)
     have hqo:=HPT.out.ok q (List.mem_of_getElem? hq)
     have hlq:=hqo.len
     have h1q:=ptc_one q
     have k0:(ptc q)[0]? =some (.int .i64 (q.a:Nat)):=rfl
     have k1:(ptc q)[1]? =some (.int .i64 (q.b:Nat)):=rfl
     have k2:(ptc q)[2]? =some (.int .i64 q.x):=rfl
     have HPK:=Lib.hid (prP_take qs hq)
     obtain⟨qa,hqa⟩: ∃z,q.a=z:=⟨_,rfl⟩
     obtain⟨qb,hqb⟩: ∃z,q.b=z:=⟨_,rfl⟩
     obtain⟨qx,hqx⟩: ∃z,q.x=z:=⟨_,rfl⟩
     obtain⟨cq,hcq⟩: ∃c,ptc q=c:=⟨_,rfl⟩
     rw[hcq] at hlq h1q k0 k1 k2 HRQ
     rw[hqa] at k0 HPK
     rw[hqb] at k1 HPK
     rw[hqx] at k2 HPK
     have HCQ:=Lib.hid (And.intro hlq (And.intro h1q (And.intro k0 (And.intro k1 k2))))
     obtain⟨z,hz⟩: ∃z:List Value,z=(Tryz.zeroCells221).toList:=⟨_,rfl⟩
     have hzc:Tryz.zeroCells221=z.toArray:=by rw[hz]
     have HZL:Hid (z.length=321):=Lib.hid (by rw[hz,Array.length_toList];exact zero_part)
     obtain⟨vb,vc,hvl,_⟩:=HRP.out.form
     subst hvl
     obtain⟨w10,hw10⟩: ∃u:World,u=wp.alloc (.cells z.toArray 221):=⟨_,rfl⟩
     have hb910:Below wp.heap.size wp w10:=by rw[hw10];exact (Below.refl _ _).alloc (Nat.le_refl _) _
     have HBA:Hid (Bk w10 wp.heap.size 221 z):=Lib.hid (by rw[hw10];exact Bk.new wp _ z)
     have HRY:=Lib.hid (HRP.out.below hb910)
     have HBY:=Lib.hid (HBP.out.trans (hb910.mono HBP.out.size))
     have HWY:=Lib.hid (HWP.out.trans (hb910.mono HWP.out.size))
     have HROW:Hid (∀k'∈obk (.slice vb k vc),k'<wp.heap.size):=Lib.hid (fun k' hk'=>(HRP.out.lt k' (mem_obk.1 hk')).2)
     have hwle:w.heap.size≤wp.heap.size:=HBP.out.size
     have hwle2:wo.heap.size≤wp.heap.size:=HWP.out.size
     clear hz hb910 hqo hlq h1q k0 k1 k2 hqa hqb hqx hcq hq
     go_wp2_with (with_reducible refine stop_part ?_)
     refine load_partM HRQ.out rfl HCQ.out.1 ?_
     go_wp2_with (with_reducible refine stop_partS ?_)
     rw[←hw10]
     clear hw10 hzc
     obtain⟨ba,hba⟩: ∃z,wp.heap.size=z:=⟨_,rfl⟩
     rw[hba] at HBA HROW hwle hwle2 ⊢
     clear hba
     refine store_part HBA.out rfl rfl HZL.out HCQ.out.1 HCQ.out.2.1 ?_
     intro w11 hk11 hf11
     have HR11:=Lib.hid (HRY.out.fr hf11 (fun k' hk'=>by have:=HROW.out k' hk';simp;omega))
     have HB11:Hid (Below w.heap.size w w11):=Lib.hid (HBY.out.trans (hf11.below HBY.out.size (fun k hk=>by rw[List.mem_singleton.1 hk];exact hwle)))
     have HW11:Hid (Below wo.heap.size wo w11):=Lib.hid (HWY.out.trans (hf11.below HWY.out.size (fun k hk=>by rw[List.mem_singleton.1 hk];exact hwle2)))
     have m0:=hk11.own.1 0 _ HCQ.out.2.2.1
     have m1:=hk11.own.1 1 _ HCQ.out.2.2.2.1
     have m2:=hk11.own.1 2 _ HCQ.out.2.2.2.2
     have hb12:Below w11.heap.size w11 (w11.alloc (.cells #[.int .i64 (qa:Nat),.int .i64 (qb:Nat),.int .i64 qx] 116)):=(Below.refl _ _).alloc (Nat.le_refl _) _
     have HRX:=Lib.hid (HR11.out.below hb12)
     have HBX:=Lib.hid (HB11.out.trans (hb12.mono HB11.out.size))
     have HWX:=Lib.hid (HW11.out.trans (hb12.mono HW11.out.size))
     have HSX:Hid (Sl (w11.alloc (.cells #[.int .i64 (qa:Nat),.int .i64 (qb:Nat),.int .i64 qx] 116)) (w11.heap.size+1) 3 (.slice (some ⟨w11.heap.size,0,none⟩) 1 1) 1 (pcC [(qa,qb,qx)])):=Lib.hid (Sl.new w11 3 1 [.int .i64 (qa:Nat),.int .i64 (qb:Nat),.int .i64 qx] 116 rfl)
     clear hk11 hf11 hb12 HRY HBY HWY HROW HBA HZL hwle hwle2 HRP HBP HWP HRQ
     go_wp2_with (at_builtin;refine append_rowM (base:=wo.heap.size) (size:=3) (xs:=pcC (prP (qs.take k))) Tryz.underlying112 info_pc rfl (by decide) rfl _ _ rfl rfl HRX.out rfl HSX.out (pcC_one _) ?_ ?_ ?_ ?_;omega;omega;exact HWX.out.size)
     intro v12 w12 hr12 hb12 hg12 hw12
     obtain⟨la12,lc12,rfl,_⟩:=hr12.form
     have HR12:Hid (Row wo.heap.size 116 3 w12 (.slice la12 (k+1) lc12) (k+1) (pcC (prP (qs.take (k+1))))):=Lib.hid (by rw[HPK.out,pcC_app];exact hr12)
     have HB12:=Lib.hid (HBX.out.trans (hb12.mono HB.out.size))
     have HW12:Hid (Below wo.heap.size wo w12):=Lib.hid (HWX.out.trans hb12)
     clear hr12 hb12 hg12 hw12
     go_wp2_with (fail)
     go_roundw
     case rel=>exact⟨k+1,rfl,by omega,HR12,HB12,HW12⟩
     case measure=>simp[intOf]<;>omega
    ·have d3:decide (k<m)=false:=decide_eq_false hkm
     have d4:decide ((k:Int)<(m:Int))=false:=decide_eq_false (by omega)
     have HKM:Hid (k=m):=Lib.hid (by omega)
     go_wp2_with (fail)
     go_ret
     have hkm2:=HKM.out
     have hlen:(prP qs).length=m:=by rw[prP_len];exact HM.out
     refine⟨_,prP qs,rfl,?_,HPT.out.ct,?_,?_,HBP.out⟩
     ·have:=HRP.out.mono HB.out.size
      rw[hkm2,←HM.out,List.take_length] at this
      rw[prP_len]
      rw[hkm2,←HM.out]
      exact this
     ·intro h0
      rw[h0] at hlen
      simp at hlen
      omega
     ·rw[hlen,←HM.out]
      exact HNE.out.2
end Go.Proofs.YtmdgeoalamancaaGreatDoor
