/- A participant is let in. awake: what the tops hang on is there. -/
import Derived.Test.YtmdgeoalamancaaGreatDoorZBH
import Derived.Test.YtmdgeoalamancaaGreatDoorZBK
import Derived.Test.YtmdgeoalamancaaGreatDoorZBI
set_option maxRecDepth 100000
set_option linter.unusedVariables false
set_option linter.unusedSimpArgs false
namespace Go.Proofs.YtmdgeoalamancaaGreatDoor
open Go.RowKit Go.Maps Go.WideMaps
open Bt Can Mc
theorem zeroWr (w:World):(zeroValue 88).run Tryz.prog w= .ok (.pointer none) w:=by kernel_rfl
theorem Spo.below {w w':World} {pb sb mb tb m1 m2 rb r1 r2 wm em db sp:Nat} (h:Spo w pb sb mb tb m1 m2 rb r1 r2 wm em db sp) (hb:Below w.heap.size w w'):Spo w' pb sb mb tb m1 m2 rb r1 r2 wm em db sp:=
 ⟨h.own.below hb,h.st.below hb,h.tab.below hb,h.rin.below hb,h.e0.below hb,h.e1.below hb,h.e2.below hb,h.e3.below hb,h.e4.below hb,h.sep⟩
theorem step_call3g {ops:Array Oper} {o:Oper} {a:Act} {w:World} {K:Act→World→Prop} {Q:Exit→Act→World→Prop} {E:Prop} (d:Option Tmp) (hd:o.dst=d) (hgd:o.guard=none) (f:FuncId) (args:Array Value) (hrun:(execOp a.eval o).run Tryz.prog w= .ok (.enter f args) w) (φ:Value→World→Prop) (hc:Calls Tryz.prog f args w fun e w'=> ∃v,e= .returned v∧φ v w') (h: ∀v w',φ v w'→K (a.put d v) w'):if Region.wanted o (yielded ops a.tmps)=true then Oper.wp Tryz.prog o a w K Q else E:=by
 subst hd
 have hw:Region.wanted o (yielded ops a.tmps)=true:=by simp[Region.wanted,hgd]
 rw[if_pos hw]
 unfold Oper.wp
 rw[hrun,Oper.upon_enter]
 refine hc.mono ?_
 rintro e w' ⟨v,rfl,hp⟩
 exact h v w' hp
theorem om_fr {F:List Nat} {w w':World} {b n:Nat} {D:DataW Unit} (h:w.ownsMap Tryz.prog 3 R1 b n D) (hf:Fr F w w') (hn:b ∉ F):w'.ownsMap Tryz.prog 3 R1 b n D:=by
 have hlt:=h.lt
 obtain⟨es,clock,hb,h1,h2,h3⟩:=h
 exact⟨es,clock,(hf.block b hlt hn).trans hb,h1,h2,h3⟩
def OpnP (pb m2 sb mb wm rb r1:Nat) (w:World) (e:Ending) (w':World):Prop:=e= .returned (.int .i64 0)∧Fr [m2,sb,mb,wm,rb,r1] w w'∧w'.cell? ⟨pb,7,none⟩=some (.map (some wm))∧w'.ownsMap Tryz.prog 3 R1 wm 1 D1
set_option maxHeartbeats 16000000 in
theorem spopen_any (pb sb mb tb m1 m2 rb r1 r2 wm em db sp:Nat) (w:World) (h:Spo w pb sb mb tb m1 m2 rb r1 r2 wm em db sp):Calls Tryz.prog 20 #[.pointer (some ⟨pb,0,none⟩),.int .i64 0,.agg (cfC 0).toArray] w (OpnP pb m2 sb mb wm rb r1 w):=by
 have HDR:=Lib.hid (fun w=>dosr_any w)
 have HO0:=Lib.hid (OwL.new_at w (cfC 0) 53 _ rfl)
 obtain⟨w1,hw1⟩: ∃z:World,z=w.alloc (.cells (cfC 0).toArray 53):=⟨_,rfl⟩
 rw[←hw1] at HO0
 have hb1:Below w.heap.size w w1:=by rw[hw1];exact (Below.refl _ _).alloc (Nat.le_refl _) _
 have HP1:=Lib.hid (h.below hb1)
 have HB1:=Lib.hid hb1
 have hplt:=h.own.2
 have HLT:Hid (pb<w.heap.size∧sb<w.heap.size∧mb<w.heap.size∧tb<w.heap.size∧m2<w.heap.size∧rb<w.heap.size∧r1<w.heap.size∧wm<w.heap.size):=Lib.hid ⟨h.own.2,h.st.2,h.e0.lt,h.tab.2,h.e2.lt,h.rin.2,h.e3.lt,h.e4.lt⟩
 clear h hb1
 go_enter Tryz.func20,Tryz.ntmps20
 go_upto_region 1 with (fail)
 rw[←hw1]
 clear hw1
 obtain⟨cb,hcb⟩: ∃z,w.heap.size=z:=⟨_,rfl⟩
 have HCB:=Lib.hid hcb
 rw[hcb] at HO0 hplt ⊢
 clear hcb
 have k7:=HP1.out.own.1.1 7 _ rfl
 have l7:=(HP1.out.e4.look lawI Tryz.underlying83 (zeroWr w1) key0).1
 go_upto_region 5 with (fail)
 clear k7 l7
 have k7:=HP1.out.own.1.1 7 _ rfl
 have k1:=HP1.out.own.1.1 1 _ rfl
 have hlen: ∀n ty,(Builtin.len_ #[83] ty #[.map (some wm)]).run Tryz.prog (w1.drewN n)= .ok (.int .i64 0) (w1.drewN n):=fun n ty=>((HP1.out.e4.below (below_drewN (Below.refl _ _) n)).owns (H:=Unit) 3 R1).len Tryz.underlying83 ty
 go_quiet (fail)
 have HP2:=Lib.hid (HP1.out.below (below_drewN (Below.refl _ _) nq))
 have HO2:=Lib.hid (HO0.out.below (below_drewN (Below.refl _ _) nq))
 have HB2:Hid (Below w.heap.size w (w1.drewN nq)):=Lib.hid (below_drewN HB1.out nq)
 clear k7 k1 hlen HP1 HO0 HB1
 generalize w1.drewN nq=w2 at*
 have m1:=HO2.out.1.1 1 _ rfl
 have m2':=HO2.out.1.1 2 _ rfl
 have m3:=HO2.out.1.1 3 _ rfl
 have m4:=HO2.out.1.1 4 _ rfl
 have m5:=HO2.out.1.1 5 _ rfl
 have m6:=HO2.out.1.1 6 _ rfl
 have m7:=HO2.out.1.1 7 _ rfl
 go_wp2_with (fail)
 refine (HDR.out _).mono ?_
 rintro e w3 ⟨rfl,hb3⟩
 have HP3:=Lib.hid (HP2.out.below hb3)
 have HO3:=Lib.hid (HO2.out.below hb3)
 have HB3:=Lib.hid (HB2.out.trans (hb3.mono HB2.out.size))
 clear hb3 HP2 HO2 HB2 m1 m2' m3 m4 m5 m6 m7 HDR
 go_upto_region 11 with (fail)
 have k5:=HP3.out.own.1.1 5 _ rfl
 have m0:=HO3.out.1.1 0 _ rfl
 have HHD:=Lib.hid ((hold_any tb m1 m2 w3.drew (HP3.out.tab.dnd).1 (HP3.out.tab.dnd).2 (HP3.out.e1.dnd) (HP3.out.e2.dnd)).mono (fun e W hP=>(show∃v,e= .returned v∧(fun v W=>v= .int .i64 0∧Hid (Fr [m2] w3.drew W)) v W from⟨_,hP.1,rfl,Lib.hid hP.2⟩)))
 first|go_region_held_law (fun W=>W.cell? ⟨pb,5,none⟩=some (.pointer (some ⟨tb,0,none⟩))∧W.cell? ⟨cb,0,none⟩=some (.string sA)) (first|exact⟨k5,m0⟩|exact HS4.out) ((
  refine step_call3g (some 58) rfl rfl 40 #[.pointer (some ⟨tb,0,none⟩),.string sA,.int .i64 0] (by go_simp) _ HHD.out ?_
  intro v w4 hv4
  obtain⟨hv4,HF4⟩:=hv4
  subst hv4
  have hf4:Fr [m2] w3 w4:=(Fr.of_below (F:=[m2]) ((Below.refl w3.heap.size w3).drew)).trans HF4.out (fun x hx _=>hx)
  have HS4:Hid (w4.cell? ⟨pb,5,none⟩=some (.pointer (some ⟨tb,0,none⟩))∧w4.cell? ⟨cb,0,none⟩=some (.string sA)):=Lib.hid ⟨(HP3.out.own.fr hf4 (by have:=HP3.out.sep;simp;omega)).1.1 5 _ rfl,(HO3.out.fr hf4 (by have:=HLT.out;have:=HCB.out;simp;omega)).1.1 0 _ rfl⟩
  have HF4':=Lib.hid hf4
  clear hf4 HF4 HHD))|fail
 all_goals
  have hsep:=HP3.out.sep
  have hcbw:=HCB.out
  have hlt:=HLT.out
  have HO4:=Lib.hid (HO3.out.fr HF4'.out (by simp;omega))
  have HPO4:=Lib.hid (HP3.out.own.fr HF4'.out (by simp;omega))
  have HST4:=Lib.hid (HP3.out.st.fr HF4'.out (by simp;omega))
  have HRI4:=Lib.hid (HP3.out.rin.fr HF4'.out (by simp;omega))
  have HE04:=Lib.hid (HP3.out.e0.fr HF4'.out (by simp;omega))
  have HE34:=Lib.hid (HP3.out.e3.fr HF4'.out (by simp;omega))
  have HE44:=Lib.hid (HP3.out.e4.fr HF4'.out (by simp;omega))
  have HF4:Hid (Fr [m2,sb,mb,wm,rb,r1] w w4):=Lib.hid ((Fr.of_below HB3.out).trans (HF4'.out.weak (fun x hx _=>by rw[List.mem_singleton.1 hx];simp)) (fun x hx _=>hx))
  have HSEP:=Lib.hid hsep
  clear hsep hcbw hlt HF4' HP3 HB3 HO3 HS4 k5 m0
  have k2:=HPO4.out.1.1 2 _ rfl
  have k3:=HPO4.out.1.1 3 _ rfl
  have m8:=HO4.out.1.1 8 _ rfl
  have m9:=HO4.out.1.1 9 _ rfl
  have fz:=HO4.out.1.2
  go_upto_region 15 with (fail)
  obtain⟨w5,hw5⟩: ∃z:World,z=(w4.setCell ⟨cb,8,none⟩ (.int .i64 9)).setCell ⟨cb,9,none⟩ (.int .i64 9):=⟨_,rfl⟩
  rw[←hw5]
  have hf5:Fr [cb] w4 w5:=by rw[hw5];exact ((Fr.refl _ _).setCell (p:=⟨cb,8,none⟩) (.inl (by simp)) _).setCell (p:=⟨cb,9,none⟩) (.inl (by simp)) _
  have hlt:=HLT.out
  have hcbw:=HCB.out
  have HO5:Hid (OwL w5 cb (cfC 9)):=Lib.hid ⟨by rw[hw5];exact (HO4.out.1.set 8 (.int .i64 9) (by simp[cfC])).set 9 (.int .i64 9) (by simp[cfC]),Nat.lt_of_lt_of_le HO4.out.2 hf5.size⟩
  have HPO5:=Lib.hid (HPO4.out.fr hf5 (by simp;omega))
  have HST5:=Lib.hid (HST4.out.fr hf5 (by simp;omega))
  have HRI5:=Lib.hid (HRI4.out.fr hf5 (by simp;omega))
  have HE05:=Lib.hid (HE04.out.fr hf5 (by simp;omega))
  have HE35:=Lib.hid (HE34.out.fr hf5 (by simp;omega))
  have HE45:=Lib.hid (HE44.out.fr hf5 (by simp;omega))
  have HF5:Hid (Fr [m2,sb,mb,wm,rb,r1] w w5):=Lib.hid (by rw[hw5];exact (HF4.out.setCell (p:=⟨cb,8,none⟩) (.inr (Nat.le_of_eq hcbw)) _).setCell (p:=⟨cb,9,none⟩) (.inr (Nat.le_of_eq hcbw)) _)
  clear hw5 hf5 k2 k3 m8 m9 fz HO4 HPO4 HST4 HRI4 HE04 HE34 HE44 HF4
  have hS5:w5.cell? ⟨cb,0,none⟩=some (.string sA)∧w5.cell? ⟨cb,1,none⟩=some (.int .i64 2000)∧w5.cell? ⟨cb,2,none⟩=some (.int .i64 1)∧w5.cell? ⟨cb,3,none⟩=some (.int .i64 1)∧w5.cell? ⟨cb,4,none⟩=some (.int .i64 0)∧w5.cell? ⟨cb,5,none⟩=some (.int .i64 0)∧w5.cell? ⟨cb,6,none⟩=some (.int .i64 0)∧w5.cell? ⟨cb,7,none⟩=some (.int .i64 0)∧w5.cell? ⟨cb,8,none⟩=some (.int .i64 9)∧w5.cell? ⟨cb,9,none⟩=some (.int .i64 9)∧w5.cell? ⟨pb,4,none⟩=some (.pointer (some ⟨sb,0,none⟩)):=⟨(HO5.out).1.1 0 _ rfl,(HO5.out).1.1 1 _ rfl,(HO5.out).1.1 2 _ rfl,(HO5.out).1.1 3 _ rfl,(HO5.out).1.1 4 _ rfl,(HO5.out).1.1 5 _ rfl,(HO5.out).1.1 6 _ rfl,(HO5.out).1.1 7 _ rfl,(HO5.out).1.1 8 _ rfl,(HO5.out).1.1 9 _ rfl,(HPO5.out).1.1 4 _ rfl⟩
  have HSN:Hid (Calls Tryz.prog 41 #[.agg #[.string sA,.int .i64 2000,.int .i64 1,.int .i64 1,.int .i64 0,.int .i64 0,.int .i64 0,.int .i64 0,.int .i64 9,.int .i64 9],.pointer (some ⟨sb,0,none⟩)] w5.drew fun e W=> ∃v,e= .returned v∧(fun v W=> ∃nb,v= .tuple #[.pointer (some ⟨nb,0,none⟩),.int .i64 0]∧Hid (Fr [sb,mb] w5.drew W)) v W):=Lib.hid ((sesn_any sb mb db sp w5.drew (HST5.out.dnd).1 (HST5.out.dnd).2 HSEP.out.2.2.2.2.2.2.1 (HE05.out.dnd)).mono (fun e W hP=>by obtain⟨⟨nb,he⟩,hf⟩:=hP;exact⟨_,he,nb,rfl,Lib.hid hf⟩))
  first|go_region_held_law (fun W=>W.cell? ⟨cb,0,none⟩=some (.string sA)∧W.cell? ⟨cb,1,none⟩=some (.int .i64 2000)∧W.cell? ⟨cb,2,none⟩=some (.int .i64 1)∧W.cell? ⟨cb,3,none⟩=some (.int .i64 1)∧W.cell? ⟨cb,4,none⟩=some (.int .i64 0)∧W.cell? ⟨cb,5,none⟩=some (.int .i64 0)∧W.cell? ⟨cb,6,none⟩=some (.int .i64 0)∧W.cell? ⟨cb,7,none⟩=some (.int .i64 0)∧W.cell? ⟨cb,8,none⟩=some (.int .i64 9)∧W.cell? ⟨cb,9,none⟩=some (.int .i64 9)∧W.cell? ⟨pb,4,none⟩=some (.pointer (some ⟨sb,0,none⟩))) (first|exact hS5|exact HS6.out) ((
   refine step_call3g (some 74) rfl rfl 41 #[.agg #[.string sA,.int .i64 2000,.int .i64 1,.int .i64 1,.int .i64 0,.int .i64 0,.int .i64 0,.int .i64 0,.int .i64 9,.int .i64 9],.pointer (some ⟨sb,0,none⟩)] (by go_simp) _ HSN.out ?_
   intro v w6 hv6
   obtain⟨nb,hv6,HF6⟩:=hv6
   subst hv6
   have hf6:Fr [sb,mb] w5 w6:=(Fr.of_below (F:=[sb,mb]) ((Below.refl w5.heap.size w5).drew)).trans HF6.out (fun x hx _=>hx)
   have HO6:=Lib.hid (HO5.out.fr hf6 (by simp;omega))
   have HPO6:=Lib.hid (HPO5.out.fr hf6 (by have:=HSEP.out;simp;omega))
   have HS6:Hid (w6.cell? ⟨cb,0,none⟩=some (.string sA)∧w6.cell? ⟨cb,1,none⟩=some (.int .i64 2000)∧w6.cell? ⟨cb,2,none⟩=some (.int .i64 1)∧w6.cell? ⟨cb,3,none⟩=some (.int .i64 1)∧w6.cell? ⟨cb,4,none⟩=some (.int .i64 0)∧w6.cell? ⟨cb,5,none⟩=some (.int .i64 0)∧w6.cell? ⟨cb,6,none⟩=some (.int .i64 0)∧w6.cell? ⟨cb,7,none⟩=some (.int .i64 0)∧w6.cell? ⟨cb,8,none⟩=some (.int .i64 9)∧w6.cell? ⟨cb,9,none⟩=some (.int .i64 9)∧w6.cell? ⟨pb,4,none⟩=some (.pointer (some ⟨sb,0,none⟩))):=Lib.hid ⟨(HO6.out).1.1 0 _ rfl,(HO6.out).1.1 1 _ rfl,(HO6.out).1.1 2 _ rfl,(HO6.out).1.1 3 _ rfl,(HO6.out).1.1 4 _ rfl,(HO6.out).1.1 5 _ rfl,(HO6.out).1.1 6 _ rfl,(HO6.out).1.1 7 _ rfl,(HO6.out).1.1 8 _ rfl,(HO6.out).1.1 9 _ rfl,(HPO6.out).1.1 4 _ rfl⟩
   have HF6':=Lib.hid hf6
   clear hf6 HF6 HSN))|fail
  all_goals
   have hsep:=HSEP.out
   have HRI6:=Lib.hid (HRI5.out.fr HF6'.out (by simp;omega))
   have HE36:=Lib.hid (HE35.out.fr HF6'.out (by simp;omega))
   have HE46:=Lib.hid (HE45.out.fr HF6'.out (by simp;omega))
   have HF6:Hid (Fr [m2,sb,mb,wm,rb,r1] w w6):=Lib.hid (HF5.out.trans HF6'.out (fun x hx _=>by simp at hx ⊢;omega))
   have hb7:Below w6.heap.size w6 (w6.alloc (.cells #[.pointer (some ⟨nb,0,none⟩),.bool false] 95)):=(Below.refl _ _).alloc (Nat.le_refl _) _
   obtain⟨w8,hp,ho8,hf8⟩:=(HE46.out.below hb7).put lawI Tryz.underlying83 key0 (.pointer (some ⟨w6.heap.size,0,none⟩))
   have HPO8:=Lib.hid ((HPO6.out.below hb7).fr hf8 (by simp;omega))
   have HRI8:=Lib.hid ((HRI6.out.below hb7).fr hf8 (by simp;omega))
   have HE38:=Lib.hid ((HE36.out.below hb7).fr hf8 (by simp;omega))
   have HF8:Hid (Fr [m2,sb,mb,wm,rb,r1] w w8):=Lib.hid ((HF6.out.trans (Fr.of_below (F:=[]) hb7) (fun x hx _=>by cases hx)).trans hf8 (fun x hx _=>by rw[List.mem_singleton.1 hx];simp))
   have HOM8:Hid (w8.ownsMap Tryz.prog 3 R1 wm 1 D1):=Lib.hid ho8
   have k7:=HPO6.out.1.1 7 _ rfl
   clear hb7 ho8 hf8 HF6' hS5 HS6 HO5 HPO5 HST5 HRI5 HE05 HE35 HE45 HF5 HO6
   go_upto_region 20 with (fail)
   clear hp k7
   have k6:=HPO8.out.1.1 6 _ rfl
   have HRD:=Lib.hid (ready_any rb r1 r2 w8 HRI8.out.1 HRI8.out.2 (by omega) HE38.out)
   go_wp2_with (fail)
   refine HRD.out.mono ?_
   rintro e w9 ⟨rfl,hf9⟩
   have HEND:Hid (Fr [m2,sb,mb,wm,rb,r1] w w9∧w9.cell? ⟨pb,7,none⟩=some (.map (some wm))∧w9.ownsMap Tryz.prog 3 R1 wm 1 D1):=Lib.hid ⟨HF8.out.trans hf9 (fun x hx _=>by simp at hx ⊢;omega),(HPO8.out.fr hf9 (by simp;omega)).1.1 7 _ rfl,om_fr HOM8.out hf9 (by simp;omega)⟩
   clear hf9 k6 HRD
   go_wp2_with (fail)
   go_ret
   exact⟨by rfl,HEND.out⟩
end Go.Proofs.YtmdgeoalamancaaGreatDoor
namespace Go.Proofs.YtmdgeoalamancaaGreatDoor
open Go.RowKit Go.Maps Go.WideMaps
open Bt Can Mc
set_option maxHeartbeats 4000000 in
theorem awake_any (w:World):Calls Tryz.prog 4 #[] w fun e w'=>e= .returned (.bool true)∧Below w.heap.size w w':=by
 have HN:=Lib.hid (spooln_any w)
 go_enter Tryz.func4,Tryz.ntmps4
 go_wp2_with (fail)
 refine HN.out.mono ?_
 rintro e w1 ⟨pb,sb,mb,tb,m1,m2,rb,r1,r2,wm,em,db,sp,rfl,hS,hb1,hp⟩
 obtain⟨w2,hw2⟩: ∃z:World,z=w1.alloc (.cells #[.string {data:=#[97]},.int .i64 2000,.int .i64 1,.int .i64 1,.int .i64 0,.int .i64 0,.int .i64 0,.int .i64 0,.int .i64 0,.int .i64 0] 53):=⟨_,rfl⟩
 have HO2:Hid (Own w2 w1.heap.size (cfC 0)):=Lib.hid (by rw[hw2];exact Own.new_at w1 (cfC 0) _ _ rfl)
 have hb2:Below w1.heap.size w1 w2:=by rw[hw2];exact (Below.refl _ _).alloc (Nat.le_refl _) _
 have HS2:=Lib.hid (spopen_any pb sb mb tb m1 m2 rb r1 r2 wm em db sp w2 (hS.below hb2))
 have HB2:=Lib.hid (hb1.trans (hb2.mono hb1.size))
 have HP:=Lib.hid hp
 clear hS hb1 hb2 hp HN
 go_upto_region 5 with (fail)
 rw[←hw2]
 clear hw2
 obtain⟨cb,hcb⟩: ∃z,w1.heap.size=z:=⟨_,rfl⟩
 rw[hcb] at HO2 ⊢
 clear hcb
 have k0:=HO2.out.1 0 _ rfl
 have k1:=HO2.out.1 1 _ rfl
 have k2:=HO2.out.1 2 _ rfl
 have k3:=HO2.out.1 3 _ rfl
 have k4:=HO2.out.1 4 _ rfl
 have k5:=HO2.out.1 5 _ rfl
 have k6:=HO2.out.1 6 _ rfl
 have k7:=HO2.out.1 7 _ rfl
 have k8:=HO2.out.1 8 _ rfl
 have k9:=HO2.out.1 9 _ rfl
 go_wp2_with (fail)
 refine HS2.out.mono ?_
 rintro e w3 ⟨rfl,hf3,hk3,ho3⟩
 have HB3:Hid (Below w.heap.size w w3):=Lib.hid (HB2.out.trans (hf3.below HB2.out.size (fun k hk=>by have:=HP.out;simp at hk;omega)))
 have HSS:=Lib.hid (sessions_any pb wm w3 hk3 ho3)
 clear hf3 hk3 ho3 HS2 k0 k1 k2 k3 k4 k5 k6 k7 k8 k9
 go_wp2_with (fail)
 refine HSS.out.mono ?_
 rintro e w4 ⟨⟨g,cap,rfl⟩,hb4⟩
 have HB4:=Lib.hid (HB3.out.trans (hb4.mono HB3.out.size))
 clear hb4 HSS
 go_wp2_with (fail)
 go_ret
 exact⟨by rfl,HB4.out⟩
end Go.Proofs.YtmdgeoalamancaaGreatDoor
