/- deflate: emit, of levels above 0. -/
import Derived.Test.YtmdgeoalamancaaGreatDoorZBA
import Derived.Test.YtmdgeoalamancaaGreatDoorZBE
import Derived.Test.YtmdgeoalamancaaGreatDoorZAP
import Derived.Deep.RegionHeldLaw
set_option maxRecDepth 100000
set_option linter.unusedVariables false
set_option linter.unusedSimpArgs false
namespace Go.Proofs.YtmdgeoalamancaaGreatDoor
open Go.RowKit
open Bt Can Mc Pk
theorem step_call3 {ops:Array Oper} {o:Oper} {a:Act} {w:World} {K:Act→World→Prop} {Q:Exit→Act→World→Prop} {E:Prop} (d:Option Tmp) (hd:o.dst=d) (hgd:o.guard=none) (f:FuncId) (args:Array Value) (hrun:(execOp a.eval o).run Tryz.prog w= .ok (.enter f args) w) (φ:Value→World→Prop) (hc:Calls Tryz.prog f args w fun e w'=> ∃v,e= .returned v∧φ v w') (h: ∀v w',φ v w'→K (a.put d v) w'):if Region.wanted o (yielded ops a.tmps)=true then Oper.wp Tryz.prog o a w K Q else E:=by
 subst hd
 exact step_call2 hgd f args hrun φ hc h
set_option maxHeartbeats 16000000 in
theorem emit1_any (cb wb lv fr n:Nat) (f:Bool) (G D:List Nat) (v:Value) (S:List Bool) (inn b0 b1 b2:Int) (w:World) (h:Cmq w cb wb lv G v D fr S inn b0 b1 b2 false) (hlv1:1≤lv) (hlv:lv<10) (hn:fr+n=D.length) (hl:D.length≤30000) (hn1:n≤1000) (hb: ∀x∈D,x<256) (hS:S.length≤1000) (hG:Gl w) (hC:Cr w) (hF8: ∀k∈cb::(G++obk v),8≤k):Calls Tryz.prog 26 #[.pointer (some ⟨cb,0,none⟩),.int .i64 (n:Nat),.bool f] w (EmiP (cb::(G++obk v)) cb lv D fr n S f w):=by
 obtain⟨a,cap,rfl,hcap⟩:=h.dat.form
 obtain⟨N,hN⟩: ∃z,D.length=z:=⟨_,rfl⟩
 have HN:=Lib.hid hN
 have hdat:=h.dat
 have HM:=Lib.hid h
 rw[hN] at hdat hcap hl hn HM hF8 ⊢
 obtain⟨va,vc,hsl,hnx⟩:=NxS.first (a:=a) (fr:=fr) hN hcap (by omega) w hdat
 obtain⟨ta,tc,hsl0,hnx0⟩:=NxS.first (a:=a) (fr:=0) hN hcap (Nat.zero_le _) w hdat
 have hsl2: ∀W,(Instr.slice 23 (.slice a N cap) (some (.int .i64 0)) (some (.int .i64 (N:Nat))) none).run Tryz.prog W= .ok (.slice ta N tc) W:=hsl0
 have HSL2:=Lib.hid hsl2
 have HNX:=Lib.hid hnx
 have HNX0:Hid (NxS D (.slice a N cap) 0 N ta tc):=Lib.hid hnx0
 have y1:IntKind.i64.wrap ((fr:Int)+(n:Int))=(N:Int):=by rw[IntWalk.i64_in _ (by omega)];omega
 have hfrn:N-fr=n:=by omega
 rw[hfrn] at hsl HNX
 have k0:=HM.out.own.1 0 _ rfl
 have k1:=HM.out.own.1 1 _ rfl
 have k2:=HM.out.own.1 2 _ rfl
 have HB:=Lib.hid hb
 have HFN:=Lib.hid (And.intro hn hfrn)
 have HG:=Lib.hid hG
 have HC:=Lib.hid hC
 have HF8:=Lib.hid hF8
 have hfr:fr≤30000:=by omega
 clear h hN hdat hnx hb hn hfrn hG hC hF8 hsl0 hnx0 hsl2
 go_enter Tryz.func26,Tryz.ntmps26
 go_upto_region 0 with (fail)
 go_quiet (fail)
 have HM1:=Lib.hid (HM.out.below (below_drewN (Below.refl _ _) nq))
 have HB1:Hid (Below w.heap.size w (w.drewN nq)):=Lib.hid (below_drewN (Below.refl _ _) nq)
 clear k0 k1 k2 HM hsl
 generalize w.drewN nq=w1 at*
 have k0:=HM1.out.own.1 0 _ rfl
 have k1:=HM1.out.own.1 1 _ rfl
 have k2:=HM1.out.own.1 2 _ rfl
 have e0:((lv:Int)==0)=false:=by rw[beq_eq_false_iff_ne];omega
 have e0':(lv==0)=false:=by rw[beq_eq_false_iff_ne];omega
 have e0'':decide ((lv:Int)=0)=false:=decide_eq_false (by omega)
 obtain⟨zz,hzz⟩: ∃z,IntKind.i64.wrap ((fr:Int)-32768)=z:=⟨_,rfl⟩
 have hz0:zz<0:=by rw[←hzz,IntWalk.i64_in _ (by omega)];omega
 have z1:(if zz<0 then (0:Int) else zz)=0:=if_pos hz0
 have z2:(if (0:Int)<zz then zz else 0)=0:=if_neg (by omega)
 have z3:max zz 0=0:=by omega
 have z4:(if zz≤0 then (0:Int) else zz)=0:=if_pos (by omega)
 have y4:IntKind.i64.wrap (fr:Int)=(fr:Int):=IntWalk.i64_in _ (by omega)
 have y5:IntKind.i64.wrap ((fr:Int)-0)=(fr:Int):=by rw[Int.sub_zero];exact y4
 go_upto_region 5 with (fail)
 clear e0 e0' e0'' hzz hz0 z1 z2 z3 z4
 have HTN:=Lib.hid (fun (W:World) (hW:Below w1.heap.size w1 W)=>tokens_any D N W.heap.size fr lv (.slice ta N tc) W (by
  have:=HNX0.out.sl W (HM1.out.dat.below hW)
  rwa [List.drop_zero] at this) (Nat.le_refl _) HN.out.symm hl HB.out (by have:=HFN.out;omega) hlv1 hlv (HC.out.below (HB1.out.trans (hW.mono HB1.out.size))))
 refine Mono.region_below (by kernel_rfl) (by kernel_rfl) (by kernel_rfl) ?_
 refine Mono.rgl_val (v:= ?v0) rfl Mono.rr (fun ρ a W hR hd hf=> ?h0) ?_
 case h0=>
  have e0:=Mono.init_get hf (t:=0) (by kernel_rfl)
  clear hd hf
  (go_simp;try with_reducible rfl)
 refine Mono.rgl_val (v:= ?v1) rfl Mono.rr (fun ρ a W hR hd hf=> ?h1) ?_
 case h1=>
  have e61:=Mono.dep_val hd hf (t:=61) (k:=0) (by kernel_rfl) rfl
  clear hd hf
  (go_simp;try with_reducible rfl)
 refine Mono.rgl_val (v:= ?v2) rfl Mono.rr (fun ρ a W hR hd hf=> ?h2) ?_
 case h2=>
  have e62:=Mono.dep_val hd hf (t:=62) (k:=1) (by kernel_rfl) rfl
  clear hd hf
  (go_simp;try with_reducible rfl)
 refine Mono.rgl_val (v:= ?v3) rfl Mono.rr (fun ρ a W hR hd hf=> ?h3) ?_
 case h3=>
  have e63:=Mono.dep_val hd hf (t:=63) (k:=2) (by kernel_rfl) rfl
  have k1:=(HM1.out.below hR).own.1 1 _ rfl
  clear hd hf
  (go_simp;try with_reducible rfl)
 refine Mono.rgl_val (v:= ?v4) rfl Mono.rr (fun ρ a W hR hd hf=> ?h4) ?_
 case h4=>
  have e7:=Mono.init_get hf (t:=7) (by kernel_rfl)
  clear hd hf
  (go_simp;try with_reducible rfl)
 refine Mono.rgl_val (v:= ?v5) rfl Mono.rr (fun ρ a W hR hd hf=> ?h5) ?_
 case h5=>
  have e0:=Mono.init_get hf (t:=0) (by kernel_rfl)
  clear hd hf
  (go_simp;try with_reducible rfl)
 refine Mono.rgl_val (v:= ?v6) rfl Mono.rr (fun ρ a W hR hd hf=> ?h6) ?_
 case h6=>
  have e66:=Mono.dep_val hd hf (t:=66) (k:=5) (by kernel_rfl) rfl
  clear hd hf
  (go_simp;try with_reducible rfl)
 refine Mono.rgl_val (v:= ?v7) rfl Mono.rr (fun ρ a W hR hd hf=> ?h7) ?_
 case h7=>
  have e67:=Mono.dep_val hd hf (t:=67) (k:=6) (by kernel_rfl) rfl
  clear hd hf
  (go_simp;try with_reducible rfl)
 refine Mono.rgl_val (v:= ?v8) rfl Mono.rr (fun ρ a W hR hd hf=> ?h8) ?_
 case h8=>
  have e68:=Mono.dep_val hd hf (t:=68) (k:=7) (by kernel_rfl) rfl
  have k2:=(HM1.out.below hR).own.1 2 _ rfl
  clear hd hf
  (go_simp;try with_reducible rfl)
 refine Mono.rgl_val (v:= ?v9) rfl Mono.rr (fun ρ a W hR hd hf=> ?h9) ?_
 case h9=>
  have e1:=Mono.init_get hf (t:=1) (by kernel_rfl)
  clear hd hf
  (go_simp;try with_reducible rfl)
 refine Mono.rgl_val (v:= ?v10) rfl Mono.rr (fun ρ a W hR hd hf=> ?h10) ?_
 case h10=>
  have e69:=Mono.dep_val hd hf (t:=69) (k:=8) (by kernel_rfl) rfl
  have e70:=Mono.dep_val hd hf (t:=70) (k:=9) (by kernel_rfl) rfl
  clear hd hf
  (go_simp;try with_reducible rfl)
 refine Mono.rgl_val (v:= ?v11) rfl Mono.rr (fun ρ a W hR hd hf=> ?h11) ?_
 case h11=>
  have e64:=Mono.dep_val hd hf (t:=64) (k:=3) (by kernel_rfl) rfl
  have e65:=Mono.dep_val hd hf (t:=65) (k:=4) (by kernel_rfl) rfl
  have e71:=Mono.dep_val hd hf (t:=71) (k:=10) (by kernel_rfl) rfl
  have hsl2:=HSL2.out
  clear hd hf
  (go_simp;try with_reducible rfl)
 refine Mono.rgl_val (v:= ?v12) rfl Mono.rr (fun ρ a W hR hd hf=> ?h12) ?_
 case h12=>
  have e0:=Mono.init_get hf (t:=0) (by kernel_rfl)
  clear hd hf
  (go_simp;try with_reducible rfl)
 refine Mono.rgl_val (v:= ?v13) rfl Mono.rr (fun ρ a W hR hd hf=> ?h13) ?_
 case h13=>
  have e73:=Mono.dep_val hd hf (t:=73) (k:=12) (by kernel_rfl) rfl
  clear hd hf
  (go_simp;try with_reducible rfl)
 refine Mono.rgl_val (v:= ?v14) rfl Mono.rr (fun ρ a W hR hd hf=> ?h14) ?_
 case h14=>
  have e74:=Mono.dep_val hd hf (t:=74) (k:=13) (by kernel_rfl) rfl
  clear hd hf
  (go_simp;try with_reducible rfl)
 refine Mono.rgl_val (v:= ?v15) rfl Mono.rr (fun ρ a W hR hd hf=> ?h15) ?_
 case h15=>
  have e75:=Mono.dep_val hd hf (t:=75) (k:=14) (by kernel_rfl) rfl
  have k2:=(HM1.out.below hR).own.1 2 _ rfl
  clear hd hf
  (go_simp;try with_reducible rfl)
 refine Mono.rgl_val (v:= ?v16) rfl Mono.rr (fun ρ a W hR hd hf=> ?h16) ?_
 case h16=>
  have e7:=Mono.init_get hf (t:=7) (by kernel_rfl)
  clear hd hf
  (go_simp;try with_reducible rfl)
 refine Mono.rgl_val (v:= ?v17) rfl Mono.rr (fun ρ a W hR hd hf=> ?h17) ?_
 case h17=>
  have e76:=Mono.dep_val hd hf (t:=76) (k:=15) (by kernel_rfl) rfl
  have e77:=Mono.dep_val hd hf (t:=77) (k:=16) (by kernel_rfl) rfl
  clear hd hf
  (go_simp;try with_reducible rfl)
 refine Mono.rgl_val (v:= ?v18) rfl Mono.rr (fun ρ a W hR hd hf=> ?h18) ?_
 case h18=>
  have e0:=Mono.init_get hf (t:=0) (by kernel_rfl)
  clear hd hf
  (go_simp;try with_reducible rfl)
 refine Mono.rgl_val (v:= ?v19) rfl Mono.rr (fun ρ a W hR hd hf=> ?h19) ?_
 case h19=>
  have e79:=Mono.dep_val hd hf (t:=79) (k:=18) (by kernel_rfl) rfl
  clear hd hf
  (go_simp;try with_reducible rfl)
 refine Mono.rgl_val (v:= ?v20) rfl Mono.rr (fun ρ a W hR hd hf=> ?h20) ?_
 case h20=>
  have e80:=Mono.dep_val hd hf (t:=80) (k:=19) (by kernel_rfl) rfl
  clear hd hf
  (go_simp;try with_reducible rfl)
 refine Mono.rgl_val (v:= ?v21) rfl Mono.rr (fun ρ a W hR hd hf=> ?h21) ?_
 case h21=>
  have e81:=Mono.dep_val hd hf (t:=81) (k:=20) (by kernel_rfl) rfl
  have k0:=(HM1.out.below hR).own.1 0 _ rfl
  clear hd hf
  (go_simp;try with_reducible rfl)
 refine Mono.rgl_call (fun x W=> ∃vt ts,x= .tuple #[vt,.int .i64 0]∧Hid (Row 0 162 3 W vt ts.length (kC ts)∧Tk.Std D fr D.length ts∧Tk.Rch fr ts∧ ∀k∈obk vt,w1.heap.size≤k)) rfl Mono.rr (fun _ _ _ h hR=>by obtain⟨vt,ts,h1,h2⟩:=h;exact⟨vt,ts,h1,Lib.hid ⟨Row.below h2.out.1 hR,h2.out.2⟩⟩) (fun ρ a W hR hd hf=> ?h22) ?_
 case h22=>
  have e72:=Mono.dep_val hd hf (t:=72) (k:=11) (by kernel_rfl) rfl
  have e78:=Mono.dep_val hd hf (t:=78) (k:=17) (by kernel_rfl) rfl
  have e82:=Mono.dep_val hd hf (t:=82) (k:=21) (by kernel_rfl) rfl
  clear hd hf
  refine⟨_,_,by go_simp;first|rfl|exact⟨rfl,rfl⟩,?_⟩
  exact (HTN.out W hR).mono (fun e W' ⟨vt,ts,he,hrt,hstd,hrch,hb,hob⟩=>⟨_,he,hb,vt,ts,rfl,Lib.hid ⟨hrt,hstd,hrch,fun k hk=>Nat.le_trans hR.size (hob k hk)⟩⟩)
 refine Mono.rgl_pred (fun x W=> ∃vt ts,x= .tuple #[vt,.int .i64 0]∧Hid (Row 0 162 3 W vt ts.length (kC ts)∧Tk.Std D fr D.length ts∧Tk.Rch fr ts∧ ∀k∈obk vt,w1.heap.size≤k)) rfl (fun _ _ _ h hR=>by obtain⟨vt,ts,h1,h2⟩:=h;exact⟨vt,ts,h1,Lib.hid ⟨Row.below h2.out.1 hR,h2.out.2⟩⟩) (fun ρ a W hR hd hf=> ?h23) ?_
 case h23=>
  obtain⟨e83,d22⟩:=Mono.dep_get hd hf (t:=83) (k:=22) (by kernel_rfl)
  replace d22:(fun x W=> ∃vt ts,x= .tuple #[vt,.int .i64 0]∧Hid (Row 0 162 3 W vt ts.length (kC ts)∧Tk.Std D fr D.length ts∧Tk.Rch fr ts∧ ∀k∈obk vt,w1.heap.size≤k)) (ρ 22) W:=d22
  clear hd hf
  exact⟨ρ 22,W,by go_simp,Mono.rr W,d22⟩
 refine Mono.rgl_pred (fun x W=> ∃ts,Hid (Row 0 162 3 W x ts.length (kC ts)∧Tk.Std D fr D.length ts∧Tk.Rch fr ts∧ ∀k∈obk x,w1.heap.size≤k)) rfl (fun _ _ _ h hR=>by obtain⟨ts,h2⟩:=h;exact⟨ts,Lib.hid ⟨Row.below h2.out.1 hR,h2.out.2⟩⟩) (fun ρ a W hR hd hf=> ?h24) ?_
 case h24=>
  obtain⟨e60,d23⟩:=Mono.dep_get hd hf (t:=60) (k:=23) (by kernel_rfl)
  replace d23:(fun x W=> ∃vt ts,x= .tuple #[vt,.int .i64 0]∧Hid (Row 0 162 3 W vt ts.length (kC ts)∧Tk.Std D fr D.length ts∧Tk.Rch fr ts∧ ∀k∈obk vt,w1.heap.size≤k)) (ρ 23) W:=d23
  obtain⟨vt,ts,hv,hd2⟩:=d23
  rw[hv] at e60
  clear hd hf
  exact⟨vt,W,by go_simp,Mono.rr W,ts,hd2⟩
 refine Mono.rgl_pred (fun x _=>x= .int .i64 0) rfl (fun _ _ _ h _=>h) (fun ρ a W hR hd hf=> ?h25) ?_
 case h25=>
  obtain⟨e60,d23⟩:=Mono.dep_get hd hf (t:=60) (k:=23) (by kernel_rfl)
  replace d23:(fun x W=> ∃vt ts,x= .tuple #[vt,.int .i64 0]∧Hid (Row 0 162 3 W vt ts.length (kC ts)∧Tk.Std D fr D.length ts∧Tk.Rch fr ts∧ ∀k∈obk vt,w1.heap.size≤k)) (ρ 23) W:=d23
  obtain⟨vt,ts,hv,hd2⟩:=d23
  rw[hv] at e60
  clear hd hf
  exact⟨.int .i64 0,W,by go_simp,Mono.rr W,rfl⟩
 refine Mono.rgl_pred (fun x W=> ∃ts,Hid (Row 0 162 3 W x ts.length (kC ts)∧Tk.Std D fr D.length ts∧Tk.Rch fr ts∧ ∀k∈obk x,w1.heap.size≤k)) rfl (fun _ _ _ h hR=>by obtain⟨ts,h2⟩:=h;exact⟨ts,Lib.hid ⟨Row.below h2.out.1 hR,h2.out.2⟩⟩) (fun ρ a W hR hd hf=> ?h26) ?_
 case h26=>
  obtain⟨e84,d24⟩:=Mono.dep_get hd hf (t:=84) (k:=24) (by kernel_rfl)
  replace d24:(fun x W=> ∃ts,Hid (Row 0 162 3 W x ts.length (kC ts)∧Tk.Std D fr D.length ts∧Tk.Rch fr ts∧ ∀k∈obk x,w1.heap.size≤k)) (ρ 24) W:=d24
  clear hd hf
  exact⟨ρ 24,W,by go_simp,Mono.rr W,d24⟩
 refine Mono.rgl_pred (fun x _=>x= .int .i64 0) rfl (fun _ _ _ h _=>h) (fun ρ a W hR hd hf=> ?h27) ?_
 case h27=>
  obtain⟨e85,d25⟩:=Mono.dep_get hd hf (t:=85) (k:=25) (by kernel_rfl)
  replace d25:(fun x _=>x= .int .i64 0) (ρ 25) W:=d25
  clear hd hf
  exact⟨ρ 25,W,by go_simp,Mono.rr W,d25⟩
 refine Mono.rgl_done rfl (fun ρ W hR ht=> ?_)
 obtain⟨d27,d26,d25,d24,d23,d22,d21,d20,d19,d18,d17,d16,d15,d14,d13,d12,d11,d10,d9,d8,d7,d6,d5,d4,d3,d2,d1,d0,_⟩:=ht
 replace d22:(fun x W=> ∃vt ts,x= .tuple #[vt,.int .i64 0]∧Hid (Row 0 162 3 W vt ts.length (kC ts)∧Tk.Std D fr D.length ts∧Tk.Rch fr ts∧ ∀k∈obk vt,w1.heap.size≤k)) (ρ 22) W:=d22
 replace d23:(fun x W=> ∃vt ts,x= .tuple #[vt,.int .i64 0]∧Hid (Row 0 162 3 W vt ts.length (kC ts)∧Tk.Std D fr D.length ts∧Tk.Rch fr ts∧ ∀k∈obk vt,w1.heap.size≤k)) (ρ 23) W:=d23
 replace d24:(fun x W=> ∃ts,Hid (Row 0 162 3 W x ts.length (kC ts)∧Tk.Std D fr D.length ts∧Tk.Rch fr ts∧ ∀k∈obk x,w1.heap.size≤k)) (ρ 24) W:=d24
 replace d25:(fun x _=>x= .int .i64 0) (ρ 25) W:=d25
 replace d26:(fun x W=> ∃ts,Hid (Row 0 162 3 W x ts.length (kC ts)∧Tk.Std D fr D.length ts∧Tk.Rch fr ts∧ ∀k∈obk x,w1.heap.size≤k)) (ρ 26) W:=d26
 replace d27:(fun x _=>x= .int .i64 0) (ρ 27) W:=d27
 simp only[List.length_cons,List.length_nil,Nat.reduceAdd] at d0 d1 d2 d3 d4 d5 d6 d7 d8 d9 d10 d11 d12 d13 d14 d15 d16 d17 d18 d19 d20 d21
 simp only[Mono.putAll,Nat.reduceAdd,d0,d1,d2,d3,d4,d5,d6,d7,d8,d9,d10,d11,d12,d13,d14,d15,d16,d17,d18,d19,d20,d21,Act.put,List.setIfInBounds_toArray,List.set_cons_zero,List.set_cons_succ]
 clear d0 d1 d2 d3 d4 d5 d6 d7 d8 d9 d10 d11 d12 d13 d14 d15 d16 d17 d18 d19 d20 d21
 generalize ρ 22=r22 at*
 generalize ρ 23=r23 at*
 generalize ρ 24=r24 at*
 generalize ρ 25=r25 at*
 generalize ρ 26=r26 at*
 generalize ρ 27=r27 at*
 obtain⟨ts,hts⟩:=d26
 have hd27:r27= .int .i64 0:=d27
 subst hd27
 obtain⟨w3,rfl⟩: ∃z:World,z=W:=⟨_,rfl⟩
 obtain⟨vt,rfl⟩: ∃z:Value,z=r26:=⟨_,rfl⟩
 have HX3:Hid (Row 0 162 3 w3 vt ts.length (kC ts)∧Tk.Std D fr D.length ts∧Tk.Rch fr ts∧Below w1.heap.size w1 w3∧ ∀k∈obk vt,w1.heap.size≤k):=Lib.hid ⟨hts.out.1,hts.out.2.1,hts.out.2.2.1,hR,hts.out.2.2.2⟩
 clear hts hR d22 d23 d24 d25 k0 k1 k2
 have HRT:=Lib.hid HX3.out.1
 have HSTD:=Lib.hid HX3.out.2.1
 have HRCH:=Lib.hid HX3.out.2.2.1
 have hb3:=HX3.out.2.2.2.1
 have HM3:=Lib.hid (HM1.out.below hb3)
 have HB3:=Lib.hid (HB1.out.trans (hb3.mono HB1.out.size))
 obtain⟨T,hT⟩: ∃z,ts.length=z:=⟨_,rfl⟩
 have hend:att ts fr T=N:=by rw[←hT,←HN.out];exact Std.end HSTD.out
 have hTn:T≤1000:=by
  have h1:=sizN_ge ts
  have h2:att ts fr T=fr+sizN' ts:=by unfold att;rw[←hT,List.take_length]
  have:=HFN.out
  omega
 have HT:=Lib.hid (And.intro hT hend)
 rw[hT] at HRT
 obtain⟨ka,kc,rfl,hkc⟩:=HRT.out.form
 have HSP:=Lib.hid (split_any ts T w3.heap.size (.slice ka T kc) w3 HRT.out.sl (Nat.le_refl _) hT.symm hTn HSTD.out.ok (HG.out.fr (Fr.of_below (F:=[]) HB3.out) (fun _ h=>by cases h)))
 have HOB:Hid (∀k∈obk (Value.slice ka T kc),w1.heap.size≤k∧k<w3.heap.size):=Lib.hid (fun k hk=>⟨HX3.out.2.2.2.2 k hk,(HRT.out.lt k (mem_obk.1 hk)).2⟩)
 have hz13:=hb3.size
 clear hb3 hT hend HX3 HTN HB1 HNX0
 go_wp2_with (fail)
 refine HSP.out.mono ?_
 rintro e w4 ⟨vp,ps,rfl,hrp,hct,hne,hl2,hb4⟩
 obtain⟨np,hnp⟩: ∃z,ps.length=z:=⟨_,rfl⟩
 rw[hnp] at hrp hl2
 obtain⟨pa,pc,rfl,hpc⟩:=hrp.form
 have HRP:=Lib.hid hrp
 have HCT:=Lib.hid (And.intro hct (And.intro hne hnp))
 have hnp0:0<np:=by rw[←hnp];exact List.length_pos_iff.2 hne
 have HRT4:=Lib.hid (HRT.out.below hb4)
 have HM4:=Lib.hid (HM3.out.below hb4)
 have HB4:=Lib.hid (HB3.out.trans (hb4.mono HB3.out.size))
 have hz34:=hb4.size
 have HG4:Hid (Gl w4):=Lib.hid (HG.out.fr (Fr.of_below (F:=[]) HB4.out) (fun _ h=>by cases h))
 obtain⟨F,hF⟩: ∃z,cb::(G++obk (.slice a N cap))=z:=⟨_,rfl⟩
 have HF:=Lib.hid hF
 have HFL:Hid (∀k∈F,8≤k∧k<w1.heap.size):=Lib.hid (fun k hk=>by
  rw[←hF] at hk
  exact⟨HF8.out k hk,HM1.out.cm.lt k hk⟩)
 rw[hF]
 clear hrp hct hne hnp hb4 hF HSP HRT HM3 HB3 HM1 HF8
 go_upto_region 8 with (fail)
 go_loopw [93,6] (fun u vl wr=> ∃(i e:Nat) (E:List Bool) (G':List Nat) (c0 c1 c2:Int) (sa:Option Addr) (sc m:Nat),u= .int .i64 (i:Nat)∧vl= .slice sa m sc∧i≤np∧Hid (Ctg 0 (ps.take i) e∧Ctg e (ps.drop i) T)∧Hid (NxS D (.slice a N cap) (att ts fr e) m sa sc)∧Hid (Cmq wr cb wb lv G' (.slice a N cap) D fr (S++E) inn c0 c1 c2 false)∧Hid (Mv F w4 (cb::(G'++obk (.slice a N cap))) wr)∧Hid (E.length≤700000*i)∧Hid (∀p,p%8=S.length%8→BlkB (f&&decide (i=np)) (D.take fr) ((D.drop fr).take (att ts fr e-fr)) p E)) (fun u _ _=>np-(intOf u).toNat)
 case atStart=>
  refine⟨0,0,[],G,b0,b1,b2,va,vc,n,rfl,rfl,Nat.zero_le _,Lib.hid ⟨by rw[List.take_zero];rfl,by rw[List.drop_zero];exact HCT.out.1⟩,Lib.hid (by rw[att_zero];exact HNX.out),Lib.hid (by rw[List.append_nil];exact HM4.out),Lib.hid (by rw[HF.out];exact Mv.refl _ _),Lib.hid (Nat.zero_le _),Lib.hid (fun p _=> ?_)⟩
  have e1:decide (0=np)=false:=decide_eq_false (by omega)
  rw[e1,Bool.and_false,att_zero,Nat.sub_self,List.take_zero]
  exact blk_nil _ _
 case round=>
  obtain⟨i,e,E,G',c0,c1,c2,sa,sc,m,rfl,rfl,hi,HCI,HNI,HMI,HVI,HEI,HBI⟩:=hrel
  obtain⟨wo,rfl⟩: ∃z:World,z=wr:=⟨_,rfl⟩
  have HDJ:Hid (∀k∈cb::(G'++obk (.slice a N cap)),k∈F∨w4.heap.size≤k):=Lib.hid HVI.out.2
  have hz4o:=HVI.out.1.size
  by_cases hlt:i<np
  ·have d1:decide (i<np)=true:=decide_eq_true hlt
   have d2:decide ((i:Int)<(np:Int))=true:=decide_eq_true (by omega)
   have q1:IntKind.i64.wrap ((i:Int)+1)=((i+1:Nat):Int):=by rw[IntWalk.i64_in _ (by omega)];omega
   have hji:(i:Int)<(np:Int):=by omega
   obtain⟨t,ht⟩: ∃t,ps[i]? =some t:=⟨_,List.getElem?_eq_getElem (by rw[HCT.out.2.2];exact hlt)⟩
   have hrp:=HRP.out.fr HVI.out.1 (fun k hk hm=>by
    have h1:=(HRP.out.lt k (mem_obk.1 hk)).1
    have h2:=(HFL.out k hm).2
    omega)
   obtain⟨b,off,rfl,k0,k1,k2⟩:=sl_pce hrp.sl HCT.out.2.2.symm ht
   have hc2:=HCI.out.2
   rw[drop_at2 ht] at hc2
   obtain⟨hc3,hc4,hc5⟩:=hc2
   have hc6:=Ctg.le hc5
   obtain⟨f1,g1,x1⟩:=t
   dsimp only at k0 k1 k2 hc3 hc4 hc5 hc6
   subst hc3
   have HNC:Hid (Ctg 0 (ps.take (i+1)) g1∧Ctg g1 (ps.drop (i+1)) T):=Lib.hid ⟨by
    rw[List.take_add_one,ht]
    exact ctg_app HCI.out.1 ⟨rfl,hc4,rfl⟩,hc5⟩
   clear ht hrp hc5
   obtain⟨w5,hw5⟩: ∃z:World,z=wo.alloc (.cells #[.int .i64 (f1:Nat),.int .i64 (g1:Nat),.int .i64 x1] 116):=⟨_,rfl⟩
   have hb5:Below wo.heap.size wo w5:=by rw[hw5];exact (Below.refl _ _).alloc (Nat.le_refl _) _
   have HOP:Hid (Own w5 wo.heap.size [.int .i64 (f1:Nat),.int .i64 (g1:Nat),.int .i64 x1]):=Lib.hid (by rw[hw5];exact Own.new_at wo _ _ _ rfl)
   have HM5:=Lib.hid (HMI.out.below hb5)
   have HV5:=Lib.hid (HVI.out.trans (Mv.below _ hb5))
   go_upto_region 10 with (fail)
   rw[←hw5]
   clear hw5 k0 k1 k2 hb5
   obtain⟨pb,hpb⟩: ∃z,wo.heap.size=z:=⟨_,rfl⟩
   rw[hpb] at HOP ⊢
   clear hpb
   have m0:=HOP.out.1 0 _ rfl
   have m1:=HOP.out.1 1 _ rfl
   obtain⟨ua,uc,hus,hut⟩:=subs_lh 109 Tryz.underlying109 szTk (a:=ka) hkc hc4 hc6
   obtain⟨tn,htn⟩: ∃z,g1-f1=z:=⟨_,rfl⟩
   obtain⟨sub,hsub⟩: ∃z,(ts.take g1).drop f1=z:=⟨_,rfl⟩
   have hsub2:(ts.drop f1).take tn=sub:=by rw[←hsub,←htn,List.drop_take]
   have hsubl:sub.length=tn:=by rw[←hsub2,List.length_take,List.length_drop,HT.out.1];omega
   have hsubo: ∀x∈sub,Tk.Ok x:=fun x hx=>by
    rw[←hsub2] at hx
    exact HSTD.out.ok x (List.mem_of_mem_drop (List.mem_of_mem_take hx))
   rw[htn] at hus hut
   have HUT:Hid (∀W,Fr F w4 W→Sl W W.heap.size 3 (.slice ua tn uc) tn (kC sub)):=Lib.hid (fun W hW=>by
    have h1:=(HRT4.out.fr hW (fun k hk hm=>by
     have h1:=(HOB.out k hk).1
     have h2:=(HFL.out k hm).2
     omega)).sl
    have h2:=hut W _ _ h1
    rwa [kC_drop,kC_take,hsub2] at h2)
   obtain⟨m1',hm1⟩: ∃z,sizN' sub=z:=⟨_,rfl⟩
   have hatt:=att_add ts fr hc4
   rw[hsub,hm1] at hatt
   have hatt2:att ts fr g1≤N:=by have:=(Std.cut HSTD.out g1).2;rwa [HN.out] at this
   have hm1m:m1'≤m:=by have:=HNI.out.len;rw[HN.out] at this;omega
   have hmid:=Std.mid HSTD.out HRCH.out hc4
   rw[hsub,hm1] at hmid
   have HMID:=Lib.hid (And.intro hsubl (And.intro hsubo (And.intro hatt (And.intro hm1 hmid))))
   have hml:m1'≤65535:=by omega
   have htnl:tn≤1000:=by omega
   have HSZ:=Lib.hid (fun (W:World) (hW:Fr F w4 W)=>sizes_any sub tn W.heap.size (.slice ua tn uc) W (HUT.out W hW) (Nat.le_refl _) hsubl.symm (by omega) hsubo)
   rw[hm1] at HSZ
   clear hsub hsub2 hsubl hsubo hut hatt hatt2 hm1 hmid htn
   go_upto_region 11 with (fail)
   clear m0 m1 hus
   go_wp2_with (fail)
   refine (HSZ.out w5 HV5.out.1).mono ?_
   rintro e w6 ⟨rfl,hb6⟩
   have HM6:=Lib.hid (HM5.out.below hb6)
   have HV6:=Lib.hid (HV5.out.trans (Mv.below _ hb6))
   obtain⟨ha,hc,hhs,hht⟩:=NxS.head HNI.out hm1m
   obtain⟨na,nc,hns,hnt⟩:=NxS.tail HNI.out hm1m w6 HM6.out.dat
   have HHT:=Lib.hid hht
   have HNT:=Lib.hid hnt
   clear hb6 HM5 HV5 HSZ HOP hht hnt
   have k3:=HM6.out.own.1 3 _ rfl
   go_upto_region 12 with (fail)
   have HPU:=Lib.hid (fun (W:World) (hW:Below w6.heap.size w6 W) (g:Bool)=>bput_any G' wb tn m1' g (S++E) sub ((D.drop (att ts fr f1)).take m1') (.slice ua tn uc) (.slice ha m1' hc) W (HM6.out.below hW).wr (by rw[List.length_append];have:=HEI.out;omega) (fun W' hW'=>HUT.out W' ((HV6.out.trans (Mv.below _ hW)).1.trans hW' (fun k hk hlt=>by
     rcases HDJ.out k (by simp[hk]) with h|h
     ·exact h
     ·omega))) HMID.out.1.symm htnl HMID.out.2.1 (fun W' hW'=>HHT.out W' ((HM6.out.below hW).dat.fr hW' (fun k hk=>(HM6.out.below hW).sep.2 2 1 k (by decide) hk))) (by rw[List.length_take,List.length_drop];have:=HNI.out.len;omega) hml (fun x hx=>HB.out x (List.mem_of_mem_drop (List.mem_of_mem_take hx))) HMID.out.2.2.2.1 (HG4.out.fr ((HV6.out.trans (Mv.below _ hW)).1) (fun k hk=>(HFL.out k hk).1)) (fun k hk=>by
     rcases HDJ.out k (by simp[hk]) with h|h
     ·exact (HFL.out k h).1
     ·have:=HG4.out.sz;omega))
   obtain⟨np1,hnp1⟩: ∃z,np-1=z:=⟨_,rfl⟩
   have y6:IntKind.i64.wrap ((np:Int)-1)=((np1:Nat):Int):=by rw[IntWalk.i64_in _ (by omega)];omega
   have HLS:Hid (i=np1↔i+1=np):=Lib.hid (by omega)
   clear hnp1
   go_cut [16,17] from 107 to 125 (fun u16 u17 wx=> ∃z:World,z=wx∧ ∃k:Nat,u16= .int .i64 (k:Nat)∧u17= .int .i64 0∧k≤2∧Hid (∃G2 E2,Wr G2 wx wb (S++E++E2)∧Fr G' w6 wx∧New G' G2 w6.heap.size∧E2.length≤700000∧ ∀(T:List Nat) (p:Nat),p%8=(S++E).length%8→Tk.Rch T.length sub→Tk.expL T sub=T++(D.drop (att ts fr f1)).take m1'→BlkB (f&&decide (i+1=np)) T ((D.drop (att ts fr f1)).take m1') p E2))
   case first=>
    have HPF:=Lib.hid (fun (fl:Bool)=>(HPU.out w6.drew (Below.refl _ _).drew fl).mono (fun e W hP=>by
     obtain⟨k,hk,he,G2,E2,hw2,hf2,hn2,hel,hbl⟩:=hP
     have hfr:Fr G' w6 W:=(Fr.of_below (F:=G') ((Below.refl w6.heap.size w6).drew)).trans hf2 (fun x hx _=>hx)
     exact (show∃v,e= .returned v∧(fun v W=> ∃k:Nat,k≤2∧v= .tuple #[.int .i64 (k:Nat),.int .i64 0]∧Hid (∃G2 E2,Wr G2 W wb (S++E++E2)∧Fr G' w6 W∧New G' G2 w6.heap.size∧E2.length≤700000∧ ∀(T:List Nat) (p:Nat),p%8=(S++E).length%8→Tk.Rch T.length sub→Tk.expL T sub=T++(D.drop (att ts fr f1)).take m1'→BlkB fl T ((D.drop (att ts fr f1)).take m1') p E2)∧Hid (W.cell? ⟨cb,3,none⟩=some (.pointer (some ⟨wb,0,none⟩)))) v W from⟨_,he,k,hk,rfl,Lib.hid ⟨G2,E2,hw2,hfr,hn2,hel,hbl⟩,Lib.hid ((HM6.out.own.fr hfr HM6.out.lt (HM6.out.sep.2 0 1 cb (by decide) (by simp))).1 3 _ rfl)⟩)))
    clear HPU hns
    cases f with
    |false=>
     have HPX:=Lib.hid (HPF.out false)
     clear HPF
     first|go_region_held_law (fun W=>W.cell? ⟨cb,3,none⟩=some (.pointer (some ⟨wb,0,none⟩))) (first|exact k3|exact HK3.out) ((
      refine step_call3 (some 123) rfl rfl 49 #[.pointer (some ⟨wb,0,none⟩),.slice ua tn uc,.slice ha m1' hc,.bool false] (by go_simp) (fun v W=> ∃k:Nat,k≤2∧v= .tuple #[.int .i64 (k:Nat),.int .i64 0]∧Hid (∃G2 E2,Wr G2 W wb (S++E++E2)∧Fr G' w6 W∧New G' G2 w6.heap.size∧E2.length≤700000∧ ∀(T:List Nat) (p:Nat),p%8=(S++E).length%8→Tk.Rch T.length sub→Tk.expL T sub=T++(D.drop (att ts fr f1)).take m1'→BlkB false T ((D.drop (att ts fr f1)).take m1') p E2)∧Hid (W.cell? ⟨cb,3,none⟩=some (.pointer (some ⟨wb,0,none⟩)))) HPX.out ?_
      intro v7 w7 hv7
      obtain⟨k,hk,hv7,HX,HK3⟩:=hv7
      subst hv7
      clear HPX))|fail
     all_goals
      go_wp2_with (fail)
      go_meet
      refine⟨_,rfl,k,rfl,rfl,hk,?_⟩
      exact HX
    |true=>
     by_cases hlast:i=np1
     ·have g1':((i:Int)==(np1:Int))=true:=by rw[beq_iff_eq];omega
      have g2':(i==np1)=true:=by rw[beq_iff_eq];exact hlast
      have g3':decide ((i:Int)=(np1:Int))=true:=decide_eq_true (by omega)
      have HLD:Hid (decide (i+1=np)=true):=Lib.hid (decide_eq_true (HLS.out.1 hlast))
      clear hlast
      have HPX:=Lib.hid (HPF.out true)
      clear HPF
      first|go_region_held_law (fun W=>W.cell? ⟨cb,3,none⟩=some (.pointer (some ⟨wb,0,none⟩))) (first|exact k3|exact HK3.out) ((
       refine step_call3 (some 123) rfl rfl 49 #[.pointer (some ⟨wb,0,none⟩),.slice ua tn uc,.slice ha m1' hc,.bool true] (by go_simp) (fun v W=> ∃k:Nat,k≤2∧v= .tuple #[.int .i64 (k:Nat),.int .i64 0]∧Hid (∃G2 E2,Wr G2 W wb (S++E++E2)∧Fr G' w6 W∧New G' G2 w6.heap.size∧E2.length≤700000∧ ∀(T:List Nat) (p:Nat),p%8=(S++E).length%8→Tk.Rch T.length sub→Tk.expL T sub=T++(D.drop (att ts fr f1)).take m1'→BlkB true T ((D.drop (att ts fr f1)).take m1') p E2)∧Hid (W.cell? ⟨cb,3,none⟩=some (.pointer (some ⟨wb,0,none⟩)))) HPX.out ?_
       intro v7 w7 hv7
       obtain⟨k,hk,hv7,HX,HK3⟩:=hv7
       subst hv7
       clear HPX))|fail
      all_goals
       go_wp2_with (fail)
       go_meet
       refine⟨_,rfl,k,rfl,rfl,hk,?_⟩
       rw[HLD.out]
       exact HX
     ·have g1':((i:Int)==(np1:Int))=false:=by rw[beq_eq_false_iff_ne];omega
      have g2':(i==np1)=false:=by rw[beq_eq_false_iff_ne];exact hlast
      have g3':decide ((i:Int)=(np1:Int))=false:=decide_eq_false (by omega)
      have HLD:Hid (decide (i+1=np)=false):=Lib.hid (decide_eq_false (fun h=>hlast (HLS.out.2 h)))
      clear hlast
      have HPX:=Lib.hid (HPF.out false)
      clear HPF
      first|go_region_held_law (fun W=>W.cell? ⟨cb,3,none⟩=some (.pointer (some ⟨wb,0,none⟩))) (first|exact k3|exact HK3.out) ((
       refine step_call3 (some 123) rfl rfl 49 #[.pointer (some ⟨wb,0,none⟩),.slice ua tn uc,.slice ha m1' hc,.bool false] (by go_simp) (fun v W=> ∃k:Nat,k≤2∧v= .tuple #[.int .i64 (k:Nat),.int .i64 0]∧Hid (∃G2 E2,Wr G2 W wb (S++E++E2)∧Fr G' w6 W∧New G' G2 w6.heap.size∧E2.length≤700000∧ ∀(T:List Nat) (p:Nat),p%8=(S++E).length%8→Tk.Rch T.length sub→Tk.expL T sub=T++(D.drop (att ts fr f1)).take m1'→BlkB false T ((D.drop (att ts fr f1)).take m1') p E2)∧Hid (W.cell? ⟨cb,3,none⟩=some (.pointer (some ⟨wb,0,none⟩)))) HPX.out ?_
       intro v7 w7 hv7
       obtain⟨k,hk,hv7,HX,HK3⟩:=hv7
       subst hv7
       clear HPX))|fail
      all_goals
       go_wp2_with (fail)
       go_meet
       refine⟨_,rfl,k,rfl,rfl,hk,?_⟩
       rw[HLD.out]
       exact HX
   case rest=>
    obtain⟨w7,rfl,k,rfl,rfl,hk2,HX⟩:=hcut
    obtain⟨G2,E2,hw2,hf2,hn2,hel,hbl⟩:=HX.out
    rw[List.append_assoc] at hw2
    have HM7:=Lib.hid (HM6.out.write hw2 hf2 hn2)
    have HV7:Hid (Mv F w4 (cb::(G2++obk (.slice a N cap))) w7):=Lib.hid (HV6.out.trans ⟨hf2.weak (fun x hx _=>by simp[hx]),fun k hk=>by
     rcases List.mem_cons.1 hk with h|hk
     ·exact .inl (by simp[h])
     rcases List.mem_append.1 hk with hk|hk
     ·rcases hn2 k hk with h|h
      ·exact .inl (by simp[h])
      ·exact .inr h
     ·exact .inl (by simp[hk])⟩)
    have HEL:Hid ((E++E2).length≤700000*(i+1)):=Lib.hid (by rw[List.length_append];have:=HEI.out;omega)
    have HBL:Hid (∀p,p%8=S.length%8→BlkB (f&&decide (i+1=np)) (D.take fr) ((D.drop fr).take (att ts fr g1-fr)) p (E++E2)):=Lib.hid (fun p hp=>by
     have h1:=HBI.out p hp
     have e1:decide (i=np)=false:=decide_eq_false (by omega)
     rw[e1,Bool.and_false] at h1
     have hge:fr≤att ts fr f1:=by unfold att;omega
     have e2:D.take fr++(D.drop fr).take (att ts fr f1-fr)=D.take (att ts fr f1):=by
      rw[←List.take_add];congr 1;omega
     have h2:=hbl (D.take (att ts fr f1)) (p+E.length) (by rw[List.length_append];omega) HMID.out.2.2.2.2.2 HMID.out.2.2.2.2.1
     have h3:=blk_app h1 (by rw[e2];exact h2)
     have e3:(D.drop fr).take (att ts fr f1-fr)++(D.drop (att ts fr f1)).take m1'=(D.drop fr).take (att ts fr g1-fr):=by
      rw[HMID.out.2.2.1,show att ts fr f1+m1'-fr=(att ts fr f1-fr)+m1' by omega,List.take_add,List.drop_drop]
      congr 3
      omega
     rwa [e3] at h3)
    have hki:(k:Int)<3:=by omega
    have hkn:k<3:=by omega
    obtain⟨y,hy⟩: ∃y:Int,(ccs lv (.slice a N cap) fr wb inn c0 c1 c2 false)[5+k]? =some (.int .i64 y):=by
     obtain rfl|rfl|rfl:k=0∨k=1∨k=2:=by omega
     ·exact⟨c0,rfl⟩
     ·exact⟨c1,rfl⟩
     ·exact⟨c2,rfl⟩
    have ky:=HM7.out.own.1 (5+k) _ hy
    have fy:=HM7.out.own.2 (5+k)
    obtain⟨c0',c1',c2',hm8⟩:=HM7.out.kind hk2 (wrap64 (y+1))
    have hf8:Fr [cb] w7 (w7.setCell ⟨cb,5+k,none⟩ (.int .i64 (wrap64 (y+1)))):=(Fr.refl _ _).setCell (p:=⟨cb,5+k,none⟩) (.inl (by simp)) _
    have HM8:=Lib.hid (hm8.below (Below.refl _ _).drew)
    have HV8:=Lib.hid ((HV7.out.trans (Mv.sub hf8 (fun x hx=>by rw[List.mem_singleton.1 hx];simp) (New.refl _ _))).trans (Mv.below _ (Below.refl _ _).drew))
    clear hw2 hf2 hn2 hel hbl HX hy hm8 hf8 HPU k3 y6 HLS
    obtain⟨m2,hm2⟩: ∃z,m-m1'=z:=⟨_,rfl⟩
    rw[hm2] at hns HNT
    have HNT2:Hid (NxS D (.slice a N cap) (att ts fr g1) m2 na nc):=Lib.hid (by rw[HMID.out.2.2.1];exact HNT.out)
    clear hm2
    go_upto_region 13 with (fail)
    go_region
    all_goals
     clear ky fy
     go_wp2_with (fail)
     go_roundw
     case rel=>exact⟨i+1,g1,E++E2,G2,c0',c1',c2',na,nc,m2,rfl,rfl,hlt,HNC,HNT2,HM8,HV8,HEL,HBL⟩
     case measure=>simp[intOf]<;>omega
  ·have d1:decide (i<np)=false:=decide_eq_false hlt
   have d2:decide ((i:Int)<(np:Int))=false:=decide_eq_false (by omega)
   have hin:i=np:=by omega
   have heT:e=T:=by
    have h1:=HCI.out.2
    rw[hin,←HCT.out.2.2,List.drop_length] at h1
    exact h1
   have HBE:Hid (∀p,p%8=S.length%8→BlkB f (D.take fr) (D.drop fr) p E):=Lib.hid (fun p hp=>by
    have h1:=HBI.out p hp
    have e1:(D.drop fr).take (N-fr)=D.drop fr:=List.take_of_length_le (by rw[List.length_drop,HN.out];exact Nat.le_refl _)
    rw[decide_eq_true hin,Bool.and_true,heT,HT.out.2,e1] at h1
    exact h1)
   have HEE:Hid (E.length≤1500000):=Lib.hid (by have:=HEI.out;omega)
   have k2:=HMI.out.own.1 2 _ rfl
   have f2:=HMI.out.own.2 2
   have hf9:Fr [cb] wo (wo.setCell ⟨cb,2,none⟩ (.int .i64 (N:Nat))):=(Fr.refl _ _).setCell (p:=⟨cb,2,none⟩) (.inl (by simp)) _
   have HM9:=Lib.hid (HMI.out.cells (fr':=N) (inn':=inn) (b0':=c0) (b1':=c1) (b2':=c2) (en':=false) hf9 (HMI.out.own.set 2 _ (by simp[ccs])))
   have HV9:=Lib.hid (HVI.out.trans (Mv.sub hf9 (fun x hx=>by rw[List.mem_singleton.1 hx];simp) (New.refl _ _)))
   clear hf9 hin heT
   go_wp2_with (fail)
   go_end0
   exact⟨by rfl,_,E,by rw[HFN.out.1];exact HM9.out.cm,by rw[HF.out];exact (Mv.below F HB4.out).trans HV9.out,HEE.out,HBE.out⟩
end Go.Proofs.YtmdgeoalamancaaGreatDoor
