/- The finder: Learn. The finder: Longest. Lazy matching: the levels, the match of a place. -/
import Derived.Test.YtmdgeoalamancaaGreatDoorZAO
set_option maxRecDepth 100000
set_option linter.unusedVariables false
set_option linter.unusedSimpArgs false
namespace Go.Proofs.YtmdgeoalamancaaGreatDoor
open Go.RowKit Go.Maps Go.WideMaps
open Bt Can Mc
def NeP (pn:Nat) (x:Value):Prop:= ∃y:Int,x= .int .i64 y∧ -1≤y∧y<(pn:Int)
theorem jC_app (a b:List Int):jC (a++b)=jC a++jC b:=by unfold jC;simp
theorem step_call2 {ops:Array Oper} {o:Oper} {a:Act} {w:World} {K:Act→World→Prop} {Q:Exit→Act→World→Prop} {E:Prop} (hgd:o.guard=none) (f:FuncId) (args:Array Value) (hrun:(execOp a.eval o).run Tryz.prog w= .ok (.enter f args) w) (φ:Value→World→Prop) (hc:Calls Tryz.prog f args w fun e w'=> ∃v,e= .returned v∧φ v w') (h: ∀v w',φ v w'→K (a.put o.dst v) w'):if Region.wanted o (yielded ops a.tmps)=true then Oper.wp Tryz.prog o a w K Q else E:=by
 have hw:Region.wanted o (yielded ops a.tmps)=true:=by simp[Region.wanted,hgd]
 rw[if_pos hw]
 unfold Oper.wp
 rw[hrun,Oper.upon_enter]
 refine hc.mono ?_
 rintro e w' ⟨v,rfl,hp⟩
 exact h v w' hp
theorem Fq.known {F:List Nat} {w:World} {fb kn pn:Nat} {data:List Nat} (h:Fq F w fb data kn pn) (kn':Nat):Fq F (w.setCell ⟨fb,1,none⟩ (.int .i64 (kn':Nat))) fb data kn' pn:=by
 obtain⟨vd,vp,mb,n,pr,rfl,h1,h2,h3,h4,h5,h6,h7,h8,h9,h10⟩:=h
 have hf:Fr [fb] w (w.setCell ⟨fb,1,none⟩ (.int .i64 (kn':Nat))):=(Fr.refl _ _).setCell (p:=⟨fb,1,none⟩) (.inl (by simp)) _
 refine⟨vd,vp,mb,n,pr,rfl,h1.set 1 _ (by simp),by simpa using h2,h3.fr hf (fun k hk=> ?_),h4.fr hf ?_,h5,h6.fr hf (fun k hk=> ?_),h7,h8,h9.up hf.size,h10⟩
 ·rw[List.mem_singleton];intro e;subst e;exact h9.2 2 0 k (by decide) hk (by simp)
 ·rw[List.mem_singleton];intro e;exact h9.2 0 1 fb (by decide) (by simp) (by simp[e])
 ·rw[List.mem_singleton];intro e;subst e;exact h9.2 3 0 k (by decide) hk (by simp)
set_option maxHeartbeats 8000000 in
theorem learn_any (F:List Nat) (fb kn upto:Nat) (data:List Nat) (w:World) (h:Fd F w fb data kn) (hkn:kn≤data.length) (hu:upto≤200000):Calls Tryz.prog 118 #[.pointer (some ⟨fb,0,none⟩),.int .i64 (upto:Nat)] w fun e w'=>e= .returned (.tuple #[])∧ ∃F',Fd F' w' fb data (max kn (min upto data.length))∧Mv F w F' w':=by
 have HF0:=Lib.hid h
 obtain⟨vd,vp,mb,n,pr,hFF,h1,h2,h3,h4,h5,h6,h7,h8,h9,h10⟩:=h
 obtain⟨da,dc,rfl,_⟩:=h3.form
 have k0:=h1.1 0 _ rfl
 have k1:=h1.1 1 _ rfl
 obtain⟨N,hN⟩: ∃z,data.length=z:=⟨_,rfl⟩
 have HN:=Lib.hid hN
 rw[hN] at k0 h10 hkn
 obtain⟨U,hU⟩: ∃z,min upto N=z:=⟨_,rfl⟩
 have qm:(if (N:Int)<(upto:Int) then (N:Int) else (upto:Int))=((U:Nat):Int):=by rw[←hU];split<;>omega
 have qm2:(if N<upto then (N:Int) else (upto:Int))=((U:Nat):Int):=by rw[←hU];split<;>omega
 have hUN:U≤N:=by omega
 have HU:=Lib.hid hU
 clear h1 h2 h3 h4 h5 h6 h7 h8 h9 hFF hN hU
 go_enter Tryz.func118,Tryz.ntmps118
 go_wp2_with (fail)
 clear k0 k1
 go_loopw [4] (fun u wr=> ∃(at_:Nat) (F':List Nat),u= .int .i64 at_∧kn≤at_∧at_≤max kn U∧Hid (Fq F' wr fb data kn (min at_ (N-2)))∧Hid (Mv F w F' wr)) (fun u _=>N-(intOf u).toNat)
 case atStart=>exact⟨kn,F,rfl,Nat.le_refl _,by omega,Lib.hid (by have:=HF0.out;unfold Fd at this;rw[HN.out] at this;exact this),Lib.hid (Mv.refl _ _)⟩
 case round=>
  obtain⟨at_,F',rfl,ha1,ha2,HQ,HV⟩:=hrel
  obtain⟨wo,rfl⟩: ∃z:World,z=wr:=⟨_,rfl⟩
  obtain⟨vd,vp,mb,n,pr,hFF,h1,h2,h3,h4,h5,h6,h7,h8,h9,_⟩:=HQ.out
  obtain⟨da,dc,rfl,_⟩:=h3.form
  have k0:=h1.1 0 _ rfl
  have k1:=h1.1 1 _ rfl
  have f1:=h1.2 1
  rw[HN.out] at k0
  have q3:IntKind.i64.wrap ((at_:Int)+3)=((at_+3:Nat):Int):=by rw[IntWalk.i64_in _ (by omega)];omega
  by_cases hgo:at_<U∧at_+3≤N
  ·obtain⟨g1,g2⟩:=hgo
   have d1:decide (at_<U)=true:=decide_eq_true g1
   have d1':decide ((at_:Int)<(U:Int))=true:=decide_eq_true (by omega)
   obtain⟨a3,ha3⟩: ∃z,at_+3=z:=⟨_,rfl⟩
   rw[ha3] at q3 g2
   have d2:decide (a3≤N)=true:=decide_eq_true g2
   have d2':decide ((a3:Int)≤(N:Int))=true:=decide_eq_true (by omega)
   have q1:IntKind.i64.wrap ((at_:Int)+1)=((at_+1:Nat):Int):=by rw[IntWalk.i64_in _ (by omega)];omega
   obtain⟨pn,hpn⟩: ∃z,min at_ (N-2)=z:=⟨_,rfl⟩
   have hpna:pn=at_:=by omega
   have HPN:=Lib.hid hpna
   rw[hpn] at HQ h7
   have HTH:=Lib.hid (three_any F' fb kn pn at_ data wo HQ.out (by rw[HN.out];omega))
   have hn6:at_<1000000:=by omega
   have HA3:=Lib.hid ha3
   clear h1 h2 h3 h4 h5 h6 h7 h8 h9 hFF hpn hpna ha3
   go_wp2_with (fail)
   refine HTH.out.mono ?_
   rintro e w1 ⟨⟨x,rfl,hx⟩,hb1⟩
   have HX:=Lib.hid hx
   have HQ1:=Lib.hid (HQ.out.below hb1)
   have HV1:=Lib.hid (HV.out.trans (Mv.below F' hb1))
   have HNE:=Lib.hid (fun (W:World) (hW:Below w1.heap.size w1 W)=>nearest_any F' fb kn pn x data W (HQ1.out.below hW) hx)
   clear hb1 HTH k0 k1 f1 HQ HV hx
   obtain⟨vd,vp,mb,n,pr,hFF,h1,h2,h3,h4,h5,h6,h7,h8,h9,_⟩:=HQ1.out
   have HO:=Lib.hid h1
   have HMQ:=Lib.hid h4
   have HRW:=Lib.hid h6
   have HRD:=Lib.hid h3
   have HPR:=Lib.hid h8
   have HSEP:=Lib.hid h9
   have HPL:=Lib.hid h7
   have HNP:=Lib.hid h5
   have HFF:=Lib.hid hFF
   have hlt:=h2
   clear h1 h2 h3 h4 h5 h6 h7 h8 h9 hFF
   go_upto_region 5 with (fail)
   have HNE1:=Lib.hid (HNE.out w1.drew (Below.refl _ _).drew)
   have k3:=HO.out.1 3 _ rfl
   obtain⟨pa,pc,hvp,_⟩:=HRW.out.form
   obtain⟨PL,hPL⟩: ∃z,pr.length=z:=⟨_,rfl⟩
   have HPL2:=Lib.hid hPL
   subst hvp
   rw[hPL] at HRW k3 HO HPL HMQ HNP HFF HSEP
   have hPL5:PL≤100000:=by have:=HPL.out;have:=HPN.out;omega
   clear hPL
   go_region_law (first
    |(refine step_call2 rfl 155 #[.pointer (some ⟨fb,0,none⟩),.int .u32 (x:Nat)] (by go_simp) (fun v W=>NeP pn v∧W=w1.drew) (HNE1.out.mono (fun e' W' ⟨⟨y,he,h1,h2⟩,hw⟩=>⟨_,he,⟨y,rfl,h1,h2⟩,hw⟩)) ?_
      intro v5 w5 hv5
      obtain⟨⟨y,hy0,hy1,hy2⟩,hw5⟩:=hv5
      subst hy0 hw5
      have HY:=Lib.hid (And.intro hy1 hy2)
      have hbx:Below w1.heap.size w1 (w1.drew.alloc (.cells #[.int .i64 y] 3)):=Below.alloc ((Below.refl _ w1).drew) (Nat.le_refl _) _
      have HRX:=Lib.hid (HRW.out.below hbx)
      have HOX:=Lib.hid (HO.out.below hbx hlt)
      have HMX:=Lib.hid (HMQ.out.below hbx)
      have HDX:=Lib.hid (HRD.out.below hbx)
      have HVX:=Lib.hid (HV1.out.trans (Mv.below F' hbx))
      have HZX:Hid (0≤(w1.drew.alloc (.cells #[.int .i64 y] 3)).heap.size):=Lib.hid (Nat.zero_le _)
      have HSX:=Lib.hid (HSEP.out.up hbx.size)
      clear hy1 hy2 hbx)
    |(refine step_append_row2 Tryz.underlying55 info_in rfl (by decide) rfl (.tmp 39) (.tmp 43) rfl rfl HRX.out rfl (Sl.new w1.drew 1 1 [.int .i64 y] 3 rfl) (by intro u hu;simp at hu;subst hu;rfl) (by omega) (by omega) HZX.out ?_
      intro v7 w7 hr7 hb7 hg7 hw7
      obtain⟨a7,c7,hv7,_⟩:=hr7.form
      subst hv7
      have hf7:=(Fr.refl (obk (Value.slice pa PL pc)) _).grown hg7 (fun k hk _=>mem_obk.2 hk)
      have HR7:=Lib.hid hr7
      have HF7:=Lib.hid hf7
      have HW7:Hid ((Value.slice a7 (PL+1) c7).ownBlock=(Value.slice pa PL pc).ownBlock∨ ∀g,(Value.slice a7 (PL+1) c7).ownBlock=some g→(w1.drew.alloc (.cells #[.int .i64 y] 3)).heap.size≤g):=Lib.hid hw7
      have HO7:=Lib.hid (HOX.out.fr hf7 (HSX.out.1 0 fb (by simp)) (HSX.out.2 0 3 fb (by decide) (by simp)))
      have HM7:=Lib.hid (HMX.out.fr hf7 (HSX.out.2 1 3 mb (by decide) (by simp)))
      have HD7:=Lib.hid (HDX.out.fr hf7 (fun k hk=>HSX.out.2 2 3 k (by decide) hk))
      have y3:=HO7.out.1 3 _ rfl
      have f3:=HO7.out.2 3
      clear hr7 hb7 hg7 hw7 hf7))
   all_goals
    have hf8:Fr [fb] w7 (w7.setCell ⟨fb,3,none⟩ (.slice a7 (PL+1) c7)):=(Fr.refl _ _).setCell (p:=⟨fb,3,none⟩) (.inl (by simp)) _
    have HF8:=Lib.hid hf8
    have HO8:=Lib.hid (HO7.out.set 3 (.slice a7 (PL+1) c7) (by simp))
    have hnv: ∀k∈obk (Value.slice a7 (PL+1) c7),k∈obk (Value.slice pa PL pc)∨(w1.drew.alloc (.cells #[.int .i64 y] 3)).heap.size≤k:=fun k hk=>by
     rcases HW7.out with e|e
     ·exact .inl (mem_obk.2 (by rw[←e];exact mem_obk.1 hk))
     ·exact .inr (e k (mem_obk.1 hk))
    have hr7lt: ∀k∈obk (Value.slice a7 (PL+1) c7),k<w7.heap.size:=fun k hk=>(HR7.out.lt k (mem_obk.1 hk)).2
    have HS7:=Lib.hid (HSX.out.set HF7.out.size 3 (obk (Value.slice a7 (PL+1) c7)) (fun k hk=>⟨hr7lt k hk,hnv k hk⟩))
    have HNV:=Lib.hid hnv
    have HM8:=Lib.hid (HM7.out.fr hf8 (by rw[List.mem_singleton];intro e;exact HS7.out.2 0 1 fb (by decide) (by simp) (by simp[e])))
    have HD8:=Lib.hid (HD7.out.fr hf8 (fun k hk=>by rw[List.mem_singleton];intro e;subst e;exact HS7.out.2 2 0 k (by decide) hk (by simp)))
    have HR8:=Lib.hid (HR7.out.fr hf8 (fun k hk=>by rw[List.mem_singleton];intro e;subst e;exact HS7.out.2 3 0 k (by decide) hk (by simp)))
    clear y3 f3 hf8 hnv hr7lt HO7 HM7 HD7 HR7 HNE1 HW7 k3
    have hz8:(w7.setCell ⟨fb,3,none⟩ (.slice a7 (PL+1) c7)).heap.size=w7.heap.size:=by simp
    generalize w7.setCell ⟨fb,3,none⟩ (.slice a7 (PL+1) c7)=w8 at*
    simp only[List.set_cons_succ,List.set_cons_zero] at HO8
    have k2:=HO8.out.1 2 _ rfl
    have hpe:PL=at_:=by rw[HPL.out,HPN.out]
    obtain⟨w9,hput,hm9,hf9⟩:=(HM8.out.more (N':=at_+1) (by omega)).put (y:=at_) (by have:=HNP.out;omega) (wf_u32 x HX.out) (by omega) hn6
    have HPE:=Lib.hid hpe
    have HM9:=Lib.hid hm9
    have HF9:=Lib.hid hf9
    clear hm9 hf9 hpe
    go_wp2_with (fail)
    go_roundw
    case rel=>
     have hbx:Below w1.heap.size w1 (w1.drew.alloc (.cells #[.int .i64 y] 3)):=Below.alloc ((Below.refl _ w1).drew) (Nat.le_refl _) _
     have hzx:w1.heap.size≤(w1.drew.alloc (.cells #[.int .i64 y] 3)).heap.size:=hbx.size
     have hF':=HFF.out
     have hfb:fb∈F':=by rw[hF'];simp
     have hmbF:mb∈F':=by rw[hF'];simp
     have hvpF: ∀k∈obk (Value.slice pa PL pc),k∈F':=fun k hk=>by rw[hF'];simp[hk]
     have hall:Fr F' (w1.drew.alloc (.cells #[.int .i64 y] 3)) w9:=((HF7.out.weak (fun k hk _=>hvpF k hk)).trans HF8.out (fun k hk _=>by rw[List.mem_singleton.1 hk];exact hfb)).trans HF9.out (fun k hk _=>by rw[List.mem_singleton.1 hk];exact hmbF)
     refine⟨at_+1,fb::mb::(obk vd++obk (.slice a7 (PL+1) c7)),by first|rfl|exact congrArg (Value.int .i64) (by omega),by omega,by omega,Lib.hid ⟨vd,.slice a7 (PL+1) c7,mb,n+1,pr++[y],rfl,?_,?_,?_,?_,?_,?_,?_,?_,?_,?_⟩,Lib.hid (HVX.out.trans ⟨hall,?_⟩)⟩
     ·exact HO8.out.fr HF9.out (by rw[hz8];exact HS7.out.1 0 fb (by simp)) (by rw[List.mem_singleton];intro e;exact HS7.out.2 0 1 fb (by decide) (by simp) (by simp[e]))
     ·have:=HS7.out.1 0 fb (by simp);have:=HF9.out.size;omega
     ·exact HD8.out.fr HF9.out (fun k hk=>by rw[List.mem_singleton];intro e;subst e;exact HS7.out.2 2 1 k (by decide) hk (by simp))
     ·rw[List.length_append,HPL2.out,HPE.out]
      exact HM9.out
     ·rw[List.length_append,HPL2.out]
      have:=HNP.out
      show n+1≤PL+1
      omega
     ·rw[List.length_append,HPL2.out,jC_app]
      exact HR8.out.fr HF9.out (fun k hk=>by rw[List.mem_singleton];intro e;subst e;exact HS7.out.2 3 1 k (by decide) hk (by simp))
     ·rw[List.length_append,HPL2.out,HPE.out]
      show at_+1=min (at_+1) (N-2)
      have:=HA3.out
      omega
     ·intro j z hj
      by_cases hjl:j<pr.length
      ·rw[List.getElem?_append_left hjl] at hj
       exact HPR.out j z hj
      ·rw[List.getElem?_append_right (by omega)] at hj
       have hj0:=(List.getElem?_eq_some_iff.1 hj).1
       simp at hj0
       have hjj:j=pr.length:=by omega
       rw[hjj,Nat.sub_self] at hj
       simp at hj
       have hyy:=HY.out
       have hp1:=HPN.out
       have hp2:=HPE.out
       have hp3:=HPL2.out
       omega
     ·exact HS7.out.up (by rw[←hz8];exact HF9.out.size)
     ·rw[HN.out];exact h10
     ·intro k hk
      rcases List.mem_cons.1 hk with rfl|hk
      ·exact .inl hfb
      rcases List.mem_cons.1 hk with rfl|hk
      ·exact .inl hmbF
      rcases List.mem_append.1 hk with hk|hk
      ·exact .inl (by rw[hF'];simp[hk])
      ·rcases HNV.out k hk with e|e
       ·exact .inl (hvpF k e)
       ·exact .inr e
    case measure=>simp[intOf]<;>omega
  ·have HEX:Hid (max kn U≤at_∨N<at_+3):=Lib.hid (by omega)
   obtain⟨KX,hKX⟩: ∃z,max kn U=z:=⟨_,rfl⟩
   have HKX:=Lib.hid hKX
   have qx1:(if (kn:Int)<(U:Int) then (U:Int) else (kn:Int))=((KX:Nat):Int):=by rw[←hKX];split<;>omega
   have qx2:(if kn<U then (U:Int) else (kn:Int))=((KX:Nat):Int):=by rw[←hKX];split<;>omega
   have HQF:=Lib.hid hFF
   have HO:=Lib.hid h1
   have HREST:=Lib.hid (And.intro h2 (And.intro h3 (And.intro h4 (And.intro h5 (And.intro h6 (And.intro h7 (And.intro h8 h9)))))))
   have HAA:=Lib.hid ha2
   clear h1 h2 h3 h4 h5 h6 h7 h8 h9 hFF hKX ha2
   by_cases g1:at_<U
   ·have g2: ¬at_+3≤N:=fun h=>hgo ⟨g1,h⟩
    have d1:decide (at_<U)=true:=decide_eq_true g1
    have d1':decide ((at_:Int)<(U:Int))=true:=decide_eq_true (by omega)
    obtain⟨a3,ha3⟩: ∃z,at_+3=z:=⟨_,rfl⟩
    rw[ha3] at q3 g2
    have d2:decide (a3≤N)=false:=decide_eq_false g2
    have d2':decide ((a3:Int)≤(N:Int))=false:=decide_eq_false (by omega)
    clear hgo ha3
    go_wp2_with (fail)
    go_end0
    have HE:max kn (min upto data.length)=KX:=by rw[HN.out,HU.out];exact HKX.out
    have hfb:fb∈F':=by rw[HQF.out];simp
    rw[HE]
    refine⟨by rfl,F',?_,HV.out.trans ⟨(Fr.refl _ _).setCell (p:=⟨fb,1,none⟩) (.inl hfb) _,New.refl _ _⟩⟩
    have:=HQ.out.known KX
    unfold Fd
    rw[HN.out,show min KX (N-2)=min at_ (N-2) by have:=HKX.out;have:=HAA.out;have:=HEX.out;omega]
    rw[show ((U:Nat):Int)=((KX:Nat):Int) by have:=HKX.out;omega]
    exact this
   ·have d1:decide (at_<U)=false:=decide_eq_false g1
    have d1':decide ((at_:Int)<(U:Int))=false:=decide_eq_false (by omega)
    clear hgo
    go_wp2_with (fail)
    go_end0
    have HE:max kn (min upto data.length)=KX:=by rw[HN.out,HU.out];exact HKX.out
    have hfb:fb∈F':=by rw[HQF.out];simp
    rw[HE]
    refine⟨by rfl,F',?_,HV.out.trans ⟨(Fr.refl _ _).setCell (p:=⟨fb,1,none⟩) (.inl hfb) _,New.refl _ _⟩⟩
    have:=HQ.out.known KX
    unfold Fd
    rw[HN.out,show min KX (N-2)=min at_ (N-2) by have:=HKX.out;have:=HAA.out;have:=HEX.out;omega]
    exact this
end Go.Proofs.YtmdgeoalamancaaGreatDoor
namespace Go.Proofs.YtmdgeoalamancaaGreatDoor
open Go.RowKit Go.Maps Go.WideMaps
open Bt Can Mc
def Mtch (data:List Nat) (i s d:Nat):Prop:=s=0∨(1≤d∧d≤i∧d≤32768∧s≤258∧i+s≤data.length∧ ∀k,k<s→data.getD (i-d+k) 0=data.getD (i+k) 0)
def LngP (data:List Nat) (i:Nat) (w:World) (e:Ending) (w':World):Prop:=(∃s d:Nat,e= .returned (.tuple #[.int .i64 (s:Nat),.int .i64 (d:Nat)])∧Mtch data i s d)∧Below w.heap.size w w'
set_option maxHeartbeats 8000000 in
theorem longest_any (F:List Nat) (fb kn i depth:Nat) (data:List Nat) (w:World) (h:Fd F w fb data kn) (hi:i≤data.length) (hdp:depth≤100000):Calls Tryz.prog 119 #[.pointer (some ⟨fb,0,none⟩),.int .i64 (i:Nat),.int .i64 (depth:Nat)] w (LngP data i w):=by
 have HFD:Hid (Fq F w fb data kn (min kn (data.length-2))):=Lib.hid h
 obtain⟨vd,vp,mb,n,pr,rfl,h1,h2,h3,h4,h5,h6,h7,h8,h9,h10⟩:=h
 obtain⟨da,dc,rfl,_⟩:=h3.form
 obtain⟨pa,pc,rfl,_⟩:=h6.form
 obtain⟨N,hN⟩: ∃z,data.length=z:=⟨_,rfl⟩
 obtain⟨PL,hPL⟩: ∃z,pr.length=z:=⟨_,rfl⟩
 have HN:=Lib.hid hN
 have HPL:=Lib.hid hPL
 have HK0:=Lib.hid (fun (W:World) (hW:Below w.heap.size w W)=>(h1.below hW h2).1 0 _ rfl)
 have HK3:=Lib.hid (fun (W:World) (hW:Below w.heap.size w W)=>(h1.below hW h2).1 3 _ rfl)
 have HSD:=Lib.hid (fun (W:World) (hW:Below w.heap.size w W)=>h3.sl.below hW)
 have HSP:=Lib.hid (fun (W:World) (hW:Below w.heap.size w W)=>h6.sl.below hW)
 have HPR:=Lib.hid h8
 rw[hN] at HK0 HSD hi h10
 rw[hPL] at HK3 HSP h7
 have hpl:PL=min kn (N-2):=by rw[h7,hN]
 have HFQ:=Lib.hid (fun (W:World) (hW:Below w.heap.size w W)=>HFD.out.below hW)
 obtain⟨Ff,hFf⟩: ∃z,fb::mb::(obk (Value.slice da N dc)++obk (Value.slice pa PL pc))=z:=⟨_,rfl⟩
 rw[hN,hPL,hFf] at HFQ
 rw[←hpl] at HFQ
 obtain⟨M,hM⟩: ∃z,min 258 (N-i)=z:=⟨_,rfl⟩
 have q0:IntKind.i64.wrap ((N:Int)-(i:Int))=((N-i:Nat):Int):=by rw[IntWalk.i64_in _ (by omega)];omega
 obtain⟨NI,hNI⟩: ∃z,N-i=z:=⟨_,rfl⟩
 rw[hNI] at q0
 have qm:(if (NI:Int)<258 then (NI:Int) else 258)=((M:Nat):Int):=by rw[←hM];split<;>omega
 have qm2:(if NI<258 then (NI:Int) else 258)=((M:Nat):Int):=by rw[←hM];split<;>omega
 have hM258:M≤258:=by omega
 have hMi:i+M≤N:=by omega
 have HMM:=Lib.hid hM
 have HPE:=Lib.hid hpl
 have HNI:=Lib.hid hNI
 have k0:=HK0.out w (Below.refl _ _)
 clear h1 h2 h3 h4 h5 h6 h7 h8 h9 HFD hN hPL hFf hM hNI hpl
 have e0:decide ((i:Int)<0)=false:=decide_eq_false (by omega)
 obtain⟨D,hD⟩: ∃z,min depth 32768=z:=⟨_,rfl⟩
 have qd:(if (32768:Int)<(depth:Int) then (32768:Int) else (depth:Int))=((D:Nat):Int):=by rw[←hD];split<;>omega
 have qd2:(if 32768<depth then (32768:Int) else (depth:Int))=((D:Nat):Int):=by rw[←hD];split<;>omega
 have hD2:D≤32768:=by omega
 clear hD
 go_enter Tryz.func119,Tryz.ntmps119
 by_cases hM3:M<3
 ·have d1:decide (M<3)=true:=decide_eq_true hM3
  have d1':decide ((M:Int)<3)=true:=decide_eq_true (by omega)
  go_wp2_with (fail)
  go_ret2
  exact⟨⟨0,0,by rfl,.inl rfl⟩,Below.refl _ _⟩
 ·have d1:decide (M<3)=false:=decide_eq_false hM3
  have d1':decide ((M:Int)<3)=false:=decide_eq_false (by omega)
  have k3:=HK3.out w (Below.refl _ _)
  by_cases hip:i<PL
  ·have g0:decide (i<PL)=true:=decide_eq_true hip
   have g0':decide ((i:Int)<(PL:Int))=true:=decide_eq_true (by omega)
   have hipi:(i:Int)<(PL:Int):=by omega
   obtain⟨z0,hz0⟩: ∃z,pr[i]? =some z:=⟨_,List.getElem?_eq_getElem (by have:=HPL.out;omega)⟩
   obtain⟨hz1,hz2⟩:=HPR.out i z0 hz0
   have hz3:z0<(PL:Int):=by omega
   obtain⟨pb,po,rfl,_⟩:=sl_cells (HSP.out w (Below.refl _ _)) (by omega)
   have kz:=sl_same (HSP.out w (Below.refl _ _)) (by omega) i _ (jC_get hz0)
   have HB0:Hid (Below w.heap.size w w):=Lib.hid (Below.refl _ _)
   clear hz0
   go_upto_region 8 with (fail)
   clear k0 k3 kz
   go_wp2_with (fail)
   go_loopw [2,9,10,11] (fun dp u s d wr=> ∃(m:Nat) (y:Int) (sz ds:Nat),dp= .int .i64 m∧m≤D∧u= .int .i64 y∧ -1≤y∧y<(i:Int)∧y<(PL:Int)∧s= .int .i64 sz∧d= .int .i64 ds∧sz≤M∧Hid (Mtch data i sz ds)∧Hid (Below w.heap.size w wr)) (fun dp _ _ _ _=>(intOf dp).toNat)
   case atStart=>exact⟨D,z0,0,0,rfl,Nat.le_refl _,rfl,hz1,hz2,hz3,rfl,rfl,Nat.zero_le _,Lib.hid (.inl rfl),HB0⟩
   case round=>
    clear hz1 hz2 hz3 HB0
    obtain⟨m,y,sz,ds,rfl,hm,rfl,hy1,hy2,hy3,rfl,rfl,hsz,HMT,HB⟩:=hrel
    obtain⟨wo,rfl⟩: ∃z:World,z=wr:=⟨_,rfl⟩
    by_cases hy0:0≤y
    rotate_left
    ·have c1:decide ((0:Int)≤y)=false:=decide_eq_false hy0
     go_wp2_with (fail)
     go_ret2
     exact⟨⟨sz,ds,by rfl,HMT.out⟩,HB.out⟩
    obtain⟨yn,rfl⟩: ∃yn:Nat,y=yn:=⟨y.toNat,by omega⟩
    have c1:decide ((0:Int)≤(yn:Int))=true:=decide_eq_true hy0
    have q1:IntKind.i64.wrap ((i:Int)-(yn:Int))=((i-yn:Nat):Int):=by rw[IntWalk.i64_in _ (by omega)];omega
    obtain⟨DI,hDI⟩: ∃z,i-yn=z:=⟨_,rfl⟩
    rw[hDI] at q1
    have HDI:=Lib.hid hDI
    have hyi:yn<i:=by omega
    have hyP:yn<PL:=by omega
    clear hDI
    by_cases hfar:DI≤32768
    rotate_left
    ·have c2:decide (DI≤32768)=false:=decide_eq_false hfar
     have c2':decide ((DI:Int)≤32768)=false:=decide_eq_false (by omega)
     go_wp2_with (fail)
     go_ret2
     exact⟨⟨sz,ds,by rfl,HMT.out⟩,HB.out⟩
    have c2:decide (DI≤32768)=true:=decide_eq_true hfar
    have c2':decide ((DI:Int)≤32768)=true:=decide_eq_true (by omega)
    by_cases hm0:0<m
    rotate_left
    ·have c3:decide (0<m)=false:=decide_eq_false hm0
     have c3':decide ((0:Int)<(m:Int))=false:=decide_eq_false (by omega)
     go_wp2_with (fail)
     go_ret2
     exact⟨⟨sz,ds,by rfl,HMT.out⟩,HB.out⟩
    have c3:decide (0<m)=true:=decide_eq_true hm0
    have c3':decide ((0:Int)<(m:Int))=true:=decide_eq_true (by omega)
    by_cases hsM:sz<M
    rotate_left
    ·have c4:decide (sz<M)=false:=decide_eq_false hsM
     have c4':decide ((sz:Int)<(M:Int))=false:=decide_eq_false (by omega)
     go_wp2_with (fail)
     go_ret2
     exact⟨⟨sz,ds,by rfl,HMT.out⟩,HB.out⟩
    have c4:decide (sz<M)=true:=decide_eq_true hsM
    have c4':decide ((sz:Int)<(M:Int))=true:=decide_eq_true (by omega)
    obtain⟨xa,hxa⟩: ∃x,data[yn+sz]? =some x:=⟨_,List.getElem?_eq_getElem (by have:=HN.out;omega)⟩
    obtain⟨xb,hxb⟩: ∃x,data[i+sz]? =some x:=⟨_,List.getElem?_eq_getElem (by have:=HN.out;omega)⟩
    obtain⟨bb,off,rfl,_⟩:=sl_cells (HSD.out wo HB.out) (by omega)
    have ca:=sl_same (HSD.out wo HB.out) (by omega) (yn+sz) _ (bC_get hxa)
    have cb:=sl_same (HSD.out wo HB.out) (by omega) (i+sz) _ (bC_get hxb)
    have k0:=HK0.out wo HB.out
    obtain⟨ia,hia⟩: ∃z,yn+sz=z:=⟨_,rfl⟩
    obtain⟨ib,hib⟩: ∃z,i+sz=z:=⟨_,rfl⟩
    rw[hia] at ca
    rw[hib] at cb
    have p1:IntKind.i64.wrap ((yn:Int)+(sz:Int))=((ia:Nat):Int):=by rw[IntWalk.i64_in _ (by omega)];omega
    have p2:IntKind.i64.wrap ((i:Int)+(sz:Int))=((ib:Nat):Int):=by rw[IntWalk.i64_in _ (by omega)];omega
    have p3:IntKind.i64.wrap ((m:Int)-1)=((m-1:Nat):Int):=by rw[IntWalk.i64_in _ (by omega)];omega
    obtain⟨m1,hm1⟩: ∃z,m-1=z:=⟨_,rfl⟩
    rw[hm1] at p3
    have HM1:=Lib.hid hm1
    have l1:(ia:Int)<(N:Int):=by omega
    have l2:(ib:Int)<(N:Int):=by omega
    have hypi:(yn:Int)<(PL:Int):=by omega
    obtain⟨z,hz⟩: ∃z,pr[yn]? =some z:=⟨_,List.getElem?_eq_getElem (by have:=HPL.out;omega)⟩
    obtain⟨hzz1,hzz2⟩:=HPR.out yn z hz
    have HZ:=Lib.hid hz
    have HFAR:=Lib.hid hfar
    clear hia hib hxa hxb hm1 hz hfar hsM
    by_cases hxx:xa=xb
    ·have t1:((xa:Int)==(xb:Int))=true:=by rw[beq_iff_eq];omega
     have t2:(xa==xb)=true:=by rw[beq_iff_eq];exact hxx
     clear hxx
     go_upto_region 11 with (fail)
     go_quiet (fail)
     have HB3:=Lib.hid (below_drewN HB.out nq)
     clear ca cb k0 HB
     generalize wo.drewN nq=w3 at*
     have HSA:=Lib.hid (same_any Ff fb kn PL yn i M data w3 (HFQ.out w3 HB3.out) (by have:=HN.out;omega) (by have:=HN.out;omega) (by omega))
     go_wp2_with (fail)
     refine HSA.out.mono ?_
     rintro e w4 ⟨⟨nn,rfl,hn1,hn2,hn3,hn4⟩,hb4⟩
     have HB4:=Lib.hid (HB3.out.trans (hb4.mono HB3.out.size))
     have HN2:=Lib.hid (And.intro hn2 (And.intro hn3 hn4))
     clear hb4 HSA HB3 hn2 hn3 hn4
     have k3:=HK3.out w4 HB4.out
     have kz:=sl_same (HSP.out w4 HB4.out) (by omega) yn _ (jC_get HZ.out)
     by_cases hnn:sz<nn
     ·have g1:decide (sz<nn)=true:=decide_eq_true hnn
      have g1':decide ((sz:Int)<(nn:Int))=true:=decide_eq_true (by omega)
      have HMT2:Hid (Mtch data i nn DI):=Lib.hid (.inr ⟨by have:=HDI.out;omega,by have:=HDI.out;omega,HFAR.out,by omega,HN2.out.2.1,fun k hk=>by
       rw[←HDI.out,show i-(i-yn)=yn by omega]
       exact HN2.out.2.2 k hk⟩)
      clear hnn
      go_wp2_with (fail)
      go_roundw
      case rel=>exact⟨m1,z,nn,DI,rfl,by have:=HM1.out;omega,rfl,hzz1,by omega,by omega,rfl,rfl,hn1,HMT2,HB4⟩
      case measure=>simp[intOf]<;>(have:=HM1.out;omega)
     ·have g1:decide (sz<nn)=false:=decide_eq_false hnn
      have g1':decide ((sz:Int)<(nn:Int))=false:=decide_eq_false (by omega)
      clear hnn
      go_wp2_with (fail)
      go_roundw
      case rel=>exact⟨m1,z,sz,ds,rfl,by have:=HM1.out;omega,rfl,hzz1,by omega,by omega,rfl,rfl,hsz,HMT,HB4⟩
      case measure=>simp[intOf]<;>(have:=HM1.out;omega)
    ·have t1:((xa:Int)==(xb:Int))=false:=by rw[beq_eq_false_iff_ne];omega
     have t2:(xa==xb)=false:=by rw[beq_eq_false_iff_ne];exact hxx
     clear hxx
     go_upto_region 11 with (fail)
     go_quiet (fail)
     have HB3:=Lib.hid (below_drewN HB.out nq)
     clear ca cb k0 HB
     generalize wo.drewN nq=w3 at*
     have k3:=HK3.out w3 HB3.out
     have kz:=sl_same (HSP.out w3 HB3.out) (by omega) yn _ (jC_get HZ.out)
     go_wp2_with (fail)
     go_roundw
     case rel=>exact⟨m1,z,sz,ds,rfl,by have:=HM1.out;omega,rfl,hzz1,by omega,by omega,rfl,rfl,hsz,HMT,HB3⟩
     case measure=>simp[intOf]<;>(have:=HM1.out;omega)
  ·have g0:decide (i<PL)=false:=decide_eq_false hip
   have g0':decide ((i:Int)<(PL:Int))=false:=decide_eq_false (by omega)
   have HTH:=Lib.hid (three_any Ff fb kn PL i data w (HFQ.out w (Below.refl _ _)) (by have:=HN.out;have:=HMM.out;have:=HNI.out;omega))
   go_wp2_with (fail)
   refine HTH.out.mono ?_
   rintro e w1 ⟨⟨x,rfl,hx⟩,hb1⟩
   have HB0:=Lib.hid hb1
   have HNE:=Lib.hid (nearest_any Ff fb kn PL x data w1 (HFQ.out w1 hb1) hx)
   clear hb1 HTH k0 k3
   go_wp2_with (fail)
   refine HNE.out.mono ?_
   rintro e w2 ⟨⟨z0,rfl,hz1,hz3⟩,rfl⟩
   have hz2:z0<(i:Int):=by omega
   go_upto_region 8 with (fail)
   clear HNE
   go_wp2_with (fail)
   go_loopw [2,9,10,11] (fun dp u s d wr=> ∃(m:Nat) (y:Int) (sz ds:Nat),dp= .int .i64 m∧m≤D∧u= .int .i64 y∧ -1≤y∧y<(i:Int)∧y<(PL:Int)∧s= .int .i64 sz∧d= .int .i64 ds∧sz≤M∧Hid (Mtch data i sz ds)∧Hid (Below w.heap.size w wr)) (fun dp _ _ _ _=>(intOf dp).toNat)
   case atStart=>exact⟨D,z0,0,0,rfl,Nat.le_refl _,rfl,hz1,hz2,hz3,rfl,rfl,Nat.zero_le _,Lib.hid (.inl rfl),HB0⟩
   case round=>
    clear hz1 hz2 hz3 HB0
    obtain⟨m,y,sz,ds,rfl,hm,rfl,hy1,hy2,hy3,rfl,rfl,hsz,HMT,HB⟩:=hrel
    obtain⟨wo,rfl⟩: ∃z:World,z=wr:=⟨_,rfl⟩
    by_cases hy0:0≤y
    rotate_left
    ·have c1:decide ((0:Int)≤y)=false:=decide_eq_false hy0
     go_wp2_with (fail)
     go_ret2
     exact⟨⟨sz,ds,by rfl,HMT.out⟩,HB.out⟩
    obtain⟨yn,rfl⟩: ∃yn:Nat,y=yn:=⟨y.toNat,by omega⟩
    have c1:decide ((0:Int)≤(yn:Int))=true:=decide_eq_true hy0
    have q1:IntKind.i64.wrap ((i:Int)-(yn:Int))=((i-yn:Nat):Int):=by rw[IntWalk.i64_in _ (by omega)];omega
    obtain⟨DI,hDI⟩: ∃z,i-yn=z:=⟨_,rfl⟩
    rw[hDI] at q1
    have HDI:=Lib.hid hDI
    have hyi:yn<i:=by omega
    have hyP:yn<PL:=by omega
    clear hDI
    by_cases hfar:DI≤32768
    rotate_left
    ·have c2:decide (DI≤32768)=false:=decide_eq_false hfar
     have c2':decide ((DI:Int)≤32768)=false:=decide_eq_false (by omega)
     go_wp2_with (fail)
     go_ret2
     exact⟨⟨sz,ds,by rfl,HMT.out⟩,HB.out⟩
    have c2:decide (DI≤32768)=true:=decide_eq_true hfar
    have c2':decide ((DI:Int)≤32768)=true:=decide_eq_true (by omega)
    by_cases hm0:0<m
    rotate_left
    ·have c3:decide (0<m)=false:=decide_eq_false hm0
     have c3':decide ((0:Int)<(m:Int))=false:=decide_eq_false (by omega)
     go_wp2_with (fail)
     go_ret2
     exact⟨⟨sz,ds,by rfl,HMT.out⟩,HB.out⟩
    have c3:decide (0<m)=true:=decide_eq_true hm0
    have c3':decide ((0:Int)<(m:Int))=true:=decide_eq_true (by omega)
    by_cases hsM:sz<M
    rotate_left
    ·have c4:decide (sz<M)=false:=decide_eq_false hsM
     have c4':decide ((sz:Int)<(M:Int))=false:=decide_eq_false (by omega)
     go_wp2_with (fail)
     go_ret2
     exact⟨⟨sz,ds,by rfl,HMT.out⟩,HB.out⟩
    have c4:decide (sz<M)=true:=decide_eq_true hsM
    have c4':decide ((sz:Int)<(M:Int))=true:=decide_eq_true (by omega)
    obtain⟨xa,hxa⟩: ∃x,data[yn+sz]? =some x:=⟨_,List.getElem?_eq_getElem (by have:=HN.out;omega)⟩
    obtain⟨xb,hxb⟩: ∃x,data[i+sz]? =some x:=⟨_,List.getElem?_eq_getElem (by have:=HN.out;omega)⟩
    obtain⟨bb,off,rfl,_⟩:=sl_cells (HSD.out wo HB.out) (by omega)
    have ca:=sl_same (HSD.out wo HB.out) (by omega) (yn+sz) _ (bC_get hxa)
    have cb:=sl_same (HSD.out wo HB.out) (by omega) (i+sz) _ (bC_get hxb)
    have k0:=HK0.out wo HB.out
    obtain⟨ia,hia⟩: ∃z,yn+sz=z:=⟨_,rfl⟩
    obtain⟨ib,hib⟩: ∃z,i+sz=z:=⟨_,rfl⟩
    rw[hia] at ca
    rw[hib] at cb
    have p1:IntKind.i64.wrap ((yn:Int)+(sz:Int))=((ia:Nat):Int):=by rw[IntWalk.i64_in _ (by omega)];omega
    have p2:IntKind.i64.wrap ((i:Int)+(sz:Int))=((ib:Nat):Int):=by rw[IntWalk.i64_in _ (by omega)];omega
    have p3:IntKind.i64.wrap ((m:Int)-1)=((m-1:Nat):Int):=by rw[IntWalk.i64_in _ (by omega)];omega
    obtain⟨m1,hm1⟩: ∃z,m-1=z:=⟨_,rfl⟩
    rw[hm1] at p3
    have HM1:=Lib.hid hm1
    have l1:(ia:Int)<(N:Int):=by omega
    have l2:(ib:Int)<(N:Int):=by omega
    have hypi:(yn:Int)<(PL:Int):=by omega
    obtain⟨z,hz⟩: ∃z,pr[yn]? =some z:=⟨_,List.getElem?_eq_getElem (by have:=HPL.out;omega)⟩
    obtain⟨hzz1,hzz2⟩:=HPR.out yn z hz
    have HZ:=Lib.hid hz
    have HFAR:=Lib.hid hfar
    clear hia hib hxa hxb hm1 hz hfar hsM
    by_cases hxx:xa=xb
    ·have t1:((xa:Int)==(xb:Int))=true:=by rw[beq_iff_eq];omega
     have t2:(xa==xb)=true:=by rw[beq_iff_eq];exact hxx
     clear hxx
     go_upto_region 11 with (fail)
     go_quiet (fail)
     have HB3:=Lib.hid (below_drewN HB.out nq)
     clear ca cb k0 HB
     generalize wo.drewN nq=w3 at*
     have HSA:=Lib.hid (same_any Ff fb kn PL yn i M data w3 (HFQ.out w3 HB3.out) (by have:=HN.out;omega) (by have:=HN.out;omega) (by omega))
     go_wp2_with (fail)
     refine HSA.out.mono ?_
     rintro e w4 ⟨⟨nn,rfl,hn1,hn2,hn3,hn4⟩,hb4⟩
     have HB4:=Lib.hid (HB3.out.trans (hb4.mono HB3.out.size))
     have HN2:=Lib.hid (And.intro hn2 (And.intro hn3 hn4))
     clear hb4 HSA HB3 hn2 hn3 hn4
     have k3:=HK3.out w4 HB4.out
     obtain⟨pb,po,rfl,_⟩:=sl_cells (HSP.out w4 HB4.out) (by omega)
     have kz:=sl_same (HSP.out w4 HB4.out) (by omega) yn _ (jC_get HZ.out)
     by_cases hnn:sz<nn
     ·have g1:decide (sz<nn)=true:=decide_eq_true hnn
      have g1':decide ((sz:Int)<(nn:Int))=true:=decide_eq_true (by omega)
      have HMT2:Hid (Mtch data i nn DI):=Lib.hid (.inr ⟨by have:=HDI.out;omega,by have:=HDI.out;omega,HFAR.out,by omega,HN2.out.2.1,fun k hk=>by
       rw[←HDI.out,show i-(i-yn)=yn by omega]
       exact HN2.out.2.2 k hk⟩)
      clear hnn
      go_wp2_with (fail)
      go_roundw
      case rel=>exact⟨m1,z,nn,DI,rfl,by have:=HM1.out;omega,rfl,hzz1,by omega,by omega,rfl,rfl,hn1,HMT2,HB4⟩
      case measure=>simp[intOf]<;>(have:=HM1.out;omega)
     ·have g1:decide (sz<nn)=false:=decide_eq_false hnn
      have g1':decide ((sz:Int)<(nn:Int))=false:=decide_eq_false (by omega)
      clear hnn
      go_wp2_with (fail)
      go_roundw
      case rel=>exact⟨m1,z,sz,ds,rfl,by have:=HM1.out;omega,rfl,hzz1,by omega,by omega,rfl,rfl,hsz,HMT,HB4⟩
      case measure=>simp[intOf]<;>(have:=HM1.out;omega)
    ·have t1:((xa:Int)==(xb:Int))=false:=by rw[beq_eq_false_iff_ne];omega
     have t2:(xa==xb)=false:=by rw[beq_eq_false_iff_ne];exact hxx
     clear hxx
     go_upto_region 11 with (fail)
     go_quiet (fail)
     have HB3:=Lib.hid (below_drewN HB.out nq)
     clear ca cb k0 HB
     generalize wo.drewN nq=w3 at*
     have k3:=HK3.out w3 HB3.out
     obtain⟨pb,po,rfl,_⟩:=sl_cells (HSP.out w3 HB3.out) (by omega)
     have kz:=sl_same (HSP.out w3 HB3.out) (by omega) yn _ (jC_get HZ.out)
     go_wp2_with (fail)
     go_roundw
     case rel=>exact⟨m1,z,sz,ds,rfl,by have:=HM1.out;omega,rfl,hzz1,by omega,by omega,rfl,rfl,hsz,HMT,HB3⟩
     case measure=>simp[intOf]<;>(have:=HM1.out;omega)
end Go.Proofs.YtmdgeoalamancaaGreatDoor
namespace Go.Proofs.YtmdgeoalamancaaGreatDoor
open Go.RowKit Go.Maps Go.WideMaps
open Bt Can Mc
def Cr (w:World):Prop:=8≤w.heap.size∧ ∀n,n<10→ ∃(d g:Nat) (b:Bool),d≤5000∧g≤5000∧w.cell? ⟨1,n*3,none⟩=some (.int .i64 (d:Nat))∧w.cell? ⟨1,n*3+1,none⟩=some (.bool b)∧w.cell? ⟨1,n*3+2,none⟩=some (.int .i64 (g:Nat))
theorem Cr.fr {F:List Nat} {a b:World} (h:Cr a) (hf:Fr F a b) (hF: ∀k∈F,8≤k):Cr b:=by
 refine⟨Nat.le_trans h.1 hf.size,fun n hn=> ?_⟩
 obtain⟨d,g,f,h1,h2,h3,h4,h5⟩:=h.2 n hn
 have hs:=h.1
 have hg:1<8:=by decide
 have hk: ∀o,b.cell? ⟨1,o,none⟩=a.cell? ⟨1,o,none⟩:=fun o=>hf.cell (p:=⟨1,o,none⟩) (show 1<a.heap.size by omega) (fun hm=>absurd (hF _ hm) (show¬8≤1 by decide))
 exact⟨d,g,f,h1,h2,by rw[hk];exact h3,by rw[hk];exact h4,by rw[hk];exact h5⟩
theorem Cr.below {a b:World} (h:Cr a) (hb:Below a.heap.size a b):Cr b:=h.fr (Fr.of_below (F:=[]) hb) (fun _ h=>by cases h)
set_option maxHeartbeats 2000000 in
theorem level_any (n:Nat) (hn:n<10) (w:World) (h:Cr w):Calls Tryz.prog 76 #[.int .i64 (n:Nat)] w fun e w'=>(∃(d g:Nat) (b:Bool),d≤5000∧g≤5000∧e= .returned (.tuple #[.agg #[.int .i64 (d:Nat),.bool b,.int .i64 (g:Nat)],.bool true]))∧Below w.heap.size w w':=by
 obtain⟨wa,hwa⟩: ∃z:World,z=w.alloc (.cells #[.int .i64 0,.bool false,.int .i64 0] 158):=⟨_,rfl⟩
 have hb:Below w.heap.size w wa:=by rw[hwa];exact (Below.refl _ _).alloc (Nat.le_refl _) _
 have HB:=Lib.hid hb
 have HO:Hid (Own wa w.heap.size [.int .i64 0,.bool false,.int .i64 0]):=Lib.hid (by rw[hwa];exact Own.new_at w _ _ _ rfl)
 obtain⟨d,g,b,h1,h2,k0,k1,k2⟩:=(h.below hb).2 n hn
 have d1:decide ((n:Int)<0)=false:=decide_eq_false (by omega)
 have d2:decide ((10:Int)≤(n:Int))=false:=decide_eq_false (by omega)
 have d3:decide (10≤n)=false:=decide_eq_false (by omega)
 have hni:(n:Int)<10:=by omega
 clear h hb
 go_enter Tryz.func76,Tryz.ntmps76
 go_upto_region 1 with (fail)
 rw[←hwa]
 clear hwa
 obtain⟨B,hB⟩: ∃z,w.heap.size=z:=⟨_,rfl⟩
 rw[hB] at HO ⊢
 have m0:=HO.out.1 0 _ rfl
 have m1:=HO.out.1 1 _ rfl
 have m2:=HO.out.1 2 _ rfl
 have f0:=HO.out.2 0
 have f1:=HO.out.2 1
 have f2:=HO.out.2 2
 go_wp2_with (fail)
 refine bodyPost_ret (v:= .tuple #[.agg #[.int .i64 (d:Nat),.bool b,.int .i64 (g:Nat)],.bool true]) (by simp[results,Tryz.results76,go_sem,m0,m1,m2]) rfl ⟨⟨d,g,b,h1,h2,rfl⟩,?_⟩
 exact ((HB.out.setCell (p:=⟨B,0,none⟩) (by rw[hB];exact Nat.le_refl _) _).setCell (p:=⟨B,1,none⟩) (by rw[hB];exact Nat.le_refl _) _).setCell (p:=⟨B,2,none⟩) (by rw[hB];exact Nat.le_refl _) _
def MatP (F:List Nat) (fb kn i:Nat) (data:List Nat) (w:World) (e:Ending) (w':World):Prop:= ∃(s d:Nat) (F':List Nat),e= .returned (.agg #[.int .i64 (s:Nat),.int .i64 (d:Nat)])∧Mtch data i s d∧Fd F' w' fb data (max kn (min i data.length))∧Mv F w F' w'
set_option maxHeartbeats 4000000 in
theorem match_any (F:List Nat) (fb kn i dp p5 p7:Nat) (data:List Nat) (w:World) (h:Fd F w fb data kn) (hi:i≤data.length) (hkn:kn≤data.length) (hdp:dp≤5000) (h7:w.cell? ⟨p7,0,none⟩=some (.pointer (some ⟨fb,0,none⟩))) (h5:w.cell? ⟨p5,0,none⟩=some (.int .i64 (dp:Nat))) (hp5:p5<w.heap.size∧p5 ∉ F) (hp7:p7<w.heap.size∧p7 ∉ F):Calls Tryz.prog 117 #[.int .i64 (i:Nat),.pointer (some ⟨p7,0,none⟩),.pointer (some ⟨p5,0,none⟩)] w (MatP F fb kn i data w):=by
 have hlN:data.length≤100000:=by obtain⟨_,_,_,_,_,_,_,_,_,_,_,_,_,_,_,h⟩:=h;exact h
 obtain⟨wa,hwa⟩: ∃z:World,z=w.alloc (.cells #[.int .i64 0,.int .i64 0] 210):=⟨_,rfl⟩
 have hb:Below w.heap.size w wa:=by rw[hwa];exact (Below.refl _ _).alloc (Nat.le_refl _) _
 have hza:w.heap.size<wa.heap.size:=by rw[hwa];simp
 have HO:Hid (Own wa w.heap.size [.int .i64 0,.int .i64 0]):=Lib.hid (by rw[hwa];exact Own.new_at w _ _ _ rfl)
 have HMV:=Lib.hid (Mv.below F hb)
 have hfd:=Fq.below h hb
 have HL:=Lib.hid (learn_any F fb kn i data wa hfd hkn (by omega))
 have HLT:=Lib.hid (Fq.lt h)
 have k7:wa.cell? ⟨p7,0,none⟩=some (.pointer (some ⟨fb,0,none⟩)):=(hb.cell (p:=⟨p7,0,none⟩) hp7.1).trans h7
 have HK7:=Lib.hid (fun (W:World) (hW:Fr F wa W)=>(hW.cell (p:=⟨p7,0,none⟩) (show p7<wa.heap.size by omega) hp7.2).trans k7)
 have k5:wa.cell? ⟨p5,0,none⟩=some (.int .i64 (dp:Nat)):=(hb.cell (p:=⟨p5,0,none⟩) hp5.1).trans h5
 have HK5:=Lib.hid (fun (W:World) (hW:Fr F wa W)=>(hW.cell (p:=⟨p5,0,none⟩) (show p5<wa.heap.size by omega) hp5.2).trans k5)
 clear h h7 h5 hfd hb
 go_enter Tryz.func117,Tryz.ntmps117
 go_upto_region 1 with (fail)
 rw[←hwa]
 clear hwa
 obtain⟨B,hB⟩: ∃z,w.heap.size=z:=⟨_,rfl⟩
 rw[hB] at HO hza ⊢
 go_wp2_with (fail)
 refine HL.out.mono ?_
 rintro e w1 ⟨rfl,F1,hf1,hv1⟩
 have HO1:=Lib.hid (HO.out.fr hv1.1 hza (fun hk=>by have:=HLT.out B hk;omega))
 have HLG:=Lib.hid (longest_any F1 fb (max kn (min i data.length)) i dp data w1 hf1 hi (by omega))
 have HF1:=Lib.hid hf1
 have HV1:=Lib.hid (HMV.out.trans hv1)
 have hz1:=hv1.1.size
 have HBB:Hid (B ∉ F1):=Lib.hid (fun hk=>by
  rcases hv1.2 B hk with h|h
  ·have:=HLT.out B h;omega
  ·omega)
 clear k7 k5
 have k7:=HK7.out w1 hv1.1
 have k5:=HK5.out w1 hv1.1
 clear hf1 hv1 HL HO HMV
 go_wp2_with (fail)
 refine HLG.out.mono ?_
 rintro e w2 ⟨⟨s,d,rfl,hm⟩,hb2⟩
 have HO2:=Lib.hid (HO1.out.below hb2 (by omega))
 have HF2:=Lib.hid (Fq.below HF1.out hb2)
 have HV2:=Lib.hid (HV1.out.trans (Mv.below F1 hb2))
 have HM:=Lib.hid hm
 clear hb2 hm HLG HF1 HV1 HO1 k7 k5
 have m0:=HO2.out.1 0 _ rfl
 have m1:=HO2.out.1 1 _ rfl
 have f0:=HO2.out.2 0
 have f1:=HO2.out.2 1
 go_wp2_with (fail)
 refine bodyPost_ret (v:= .agg #[.int .i64 (s:Nat),.int .i64 (d:Nat)]) (by simp[results,Tryz.results117,go_sem,m0,m1]) rfl ?_
 have hfx:Fr [B] w2 ((w2.setCell ⟨B,0,none⟩ (.int .i64 (s:Nat))).setCell ⟨B,1,none⟩ (.int .i64 (d:Nat))):=((Fr.refl _ _).setCell (p:=⟨B,0,none⟩) (.inl (by simp)) _).setCell (p:=⟨B,1,none⟩) (.inl (by simp)) _
 refine⟨s,d,F1,rfl,HM.out,Fq.fr HF2.out hfx (fun k hk=>by rw[List.mem_singleton];rintro rfl;exact HBB.out hk),HV2.out.1.trans hfx (fun k hk hlt=>by rw[List.mem_singleton.1 hk] at hlt;omega),HV2.out.2⟩
end Go.Proofs.YtmdgeoalamancaaGreatDoor
