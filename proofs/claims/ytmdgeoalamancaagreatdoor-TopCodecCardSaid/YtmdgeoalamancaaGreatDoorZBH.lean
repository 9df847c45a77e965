/- The first day of 2000 is a time. The spool: Hold, chain.Of, store.Open, Ready. A session is begun. A spool in memory. -/
import Derived.Test.YtmdgeoalamancaaGreatDoorZBG
import Derived.Test.YtmdgeoalamancaaGreatDoorZAK
import Derived.Test.YtmdgeoalamancaaGreatDoorZAH
import Derived.Deep.RegionHeldLaw
set_option maxRecDepth 100000
set_option linter.unusedVariables false
set_option linter.unusedSimpArgs false
namespace Go.Proofs.YtmdgeoalamancaaGreatDoor
open Go.RowKit Go.Maps Go.WideMaps
open Bt Can Mc
def tmC:List Value:=[.int .i64 2000,.int .i64 1,.int .i64 1,.int .i64 0,.int .i64 0,.int .i64 0]
theorem within_any (v a b:Int) (h1:a≤v) (h2:v≤b) (w:World):Calls Tryz.prog 66 #[.int .i64 v,.int .i64 a,.int .i64 b] w fun e w'=>e= .returned (.bool true)∧w'=w:=by
 have d1:decide (a≤v)=true:=decide_eq_true h1
 have d2:decide (v≤b)=true:=decide_eq_true h2
 clear h1 h2
 go_enter Tryz.func66,Tryz.ntmps66
 go_wp2_with (fail)
 go_ret
 exact⟨by rfl,rfl⟩
set_option maxHeartbeats 1000000 in
theorem days_any (w:World):Calls Tryz.prog 67 #[.int .i64 2000,.int .i64 1] w fun e w'=>e= .returned (.int .i64 31)∧w'=w:=by
 go_enter Tryz.func67,Tryz.ntmps67
 go_wp2_with (fail)
 go_ret
 exact⟨by rfl,rfl⟩
set_option maxHeartbeats 4000000 in
theorem dosr_any (w:World):Calls Tryz.prog 39 #[.agg tmC.toArray] w fun e w'=>e= .returned (.bool true)∧Below w.heap.size w w':=by
 have HW:=Lib.hid (fun (v a b:Int) (h1:a≤v) (h2:v≤b) (w:World)=>within_any v a b h1 h2 w)
 have HD:=Lib.hid (fun w=>days_any w)
 have HO:=Lib.hid (Own.new_at w tmC 51 _ rfl)
 obtain⟨w1,hw1⟩: ∃z:World,z=w.alloc (.cells tmC.toArray 51):=⟨_,rfl⟩
 rw[←hw1] at HO
 have HB:Hid (Below w.heap.size w w1):=Lib.hid (by rw[hw1];exact (Below.refl _ _).alloc (Nat.le_refl _) _)
 go_enter Tryz.func39,Tryz.ntmps39
 go_upto_region 1 with (fail)
 rw[←hw1]
 clear hw1
 obtain⟨b,hb⟩: ∃z,w.heap.size=z:=⟨_,rfl⟩
 have HBB:=Lib.hid hb
 rw[hb] at HO ⊢
 clear hb
 have m0:=HO.out.1 0 _ rfl
 have m1:=HO.out.1 1 _ rfl
 have m2:=HO.out.1 2 _ rfl
 have m3:=HO.out.1 3 _ rfl
 have m4:=HO.out.1 4 _ rfl
 have m5:=HO.out.1 5 _ rfl
 go_quiet ((first|(go_at_call 66;exact Calls.quiet_of_same (HW.out _ _ _ (by decide) (by decide) _))|(go_at_call 67;exact Calls.quiet_of_same (HD.out _))))
 go_wp2_with (fail)
 go_ret
 rw[←HBB.out]
 exact⟨by rfl,below_drewN HB.out _⟩
end Go.Proofs.YtmdgeoalamancaaGreatDoor
namespace Go.Proofs.YtmdgeoalamancaaGreatDoor
open Go.RowKit Go.Maps Go.WideMaps
open Bt Can Mc
theorem zeroSt (w:World):(zeroValue 155).run Tryz.prog w= .ok (.agg #[]) w:=by kernel_rfl
theorem keyA:keyOf Tryz.prog 9 (.string sA)=some (.string [97]):=by kernel_rfl
theorem key0:keyOf Tryz.prog 3 (.int .i64 0)=some (.int .i64 0):=by kernel_rfl
theorem key1:keyOf Tryz.prog 3 (.int .i64 1)=some (.int .i64 1):=by kernel_rfl
set_option maxHeartbeats 4000000 in
theorem hold_any (tb m1 m2:Nat) (w:World) (hO:Own w tb [.slice none 0 0,.map (some m1),.map (some m2)]) (hlt:tb<w.heap.size) (h1:Emp w m1) (h2:Emp w m2):Calls Tryz.prog 40 #[.pointer (some ⟨tb,0,none⟩),.string sA,.int .i64 0] w fun e w'=>e= .returned (.int .i64 0)∧Fr [m2] w w':=by
 have HC:=Lib.hid (fun w=>check_a w)
 have HO:=Lib.hid hO
 have H12:=Lib.hid (And.intro h1 h2)
 clear hO h1 h2
 go_enter Tryz.func40,Tryz.ntmps40
 go_wp2_with (fail)
 refine (HC.out _).mono ?_
 rintro e w1 ⟨rfl,hb1⟩
 have HO1:=Lib.hid (HO.out.below hb1 hlt)
 have h11:=H12.out.1.below hb1
 have h21:=H12.out.2.below hb1
 have HB1:Hid (Fr [m2] w w1):=Lib.hid (Fr.of_below hb1)
 have l1:=(h11.look lawS Tryz.underlying135 (zeroI w1) keyA).2
 have l2:=(h21.look lawS Tryz.underlying135 (zeroI w1) keyA).2
 obtain⟨w2,hp,_,hf2⟩:=h21.put lawS Tryz.underlying135 keyA (.int .i64 0)
 have HF2:=Lib.hid (HB1.out.trans hf2 (fun x hx _=>hx))
 have m1':=HO1.out.1 1 _ rfl
 have m2':=HO1.out.1 2 _ rfl
 clear hb1 h11 h21 hf2 HC HB1
 go_wp2_with (fail)
 go_ret
 exact⟨by rfl,HF2.out⟩
set_option maxHeartbeats 1000000 in
theorem chof_any (w:World):Calls Tryz.prog 112 #[.slice none 0 0] w fun e w'=>(∃b,e= .returned (.pointer (some ⟨b,0,none⟩)))∧Below w.heap.size w w':=by
 go_enter Tryz.func112,Tryz.ntmps112
 go_wp2_with (fail)
 refine wp_loop_rounds 1 ?_
 rw[rounds_succ]
 go_wp2_with (fail)
 go_ret
 exact⟨⟨_,by rfl⟩,(Below.refl _ _).alloc (Nat.le_refl _) _⟩
set_option maxHeartbeats 4000000 in
theorem stopen_any (sb mb db sp:Nat) (w:World) (hO:Own w sb [.pointer (some ⟨db,0,none⟩),.pointer (some ⟨sp,0,none⟩),.map (some mb),.int .i64 0]) (hlt:sb<w.heap.size) (hne:sb≠mb) (h1:Emp w mb):Calls Tryz.prog 70 #[.pointer (some ⟨sb,0,none⟩)] w fun e w'=>e= .returned (.int .i64 1)∧Fr [sb,mb] w w':=by
 have HC:=Lib.hid (fun w=>chof_any w)
 have k3:=hO.1 3 _ rfl
 have f3:=hO.2 3
 have ho1:=hO.set 3 (.int .i64 1) (by simp)
 obtain⟨w1,hw1⟩: ∃z:World,z=w.setCell ⟨sb,3,none⟩ (.int .i64 1):=⟨_,rfl⟩
 rw[←hw1] at ho1
 have HO1:=Lib.hid ho1
 have HF1:Hid (Fr [sb,mb] w w1):=Lib.hid (by rw[hw1];exact (Fr.refl _ _).setCell (p:=⟨sb,3,none⟩) (.inl (by simp)) _)
 have HE1:Hid (Emp w1 mb):=Lib.hid (by rw[hw1];exact h1.fr ((Fr.refl [sb] w).setCell (p:=⟨sb,3,none⟩) (.inl (by simp)) _) (by simp;omega))
 have hlt1:sb<w1.heap.size:=by rw[hw1];simpa using hlt
 have HNE:=Lib.hid hne
 clear ho1 hO h1 hne
 go_enter Tryz.func70,Tryz.ntmps70
 go_upto_region 2 with (fail)
 rw[←hw1]
 clear hw1 k3 f3
 have k2:=HO1.out.1 2 _ rfl
 have k3:=HO1.out.1 3 _ rfl
 go_region_held_law (fun W=>W.cell? ⟨sb,2,none⟩=some (.map (some mb))∧W.cell? ⟨sb,3,none⟩=some (.int .i64 1)) (first|exact⟨k2,k3⟩|exact HS2.out|exact HS3.out) ((
  go_at_call 112
  refine (HC.out _).mono ?_
  rintro e w2 ⟨⟨b,rfl⟩,hb2⟩
  have hbb:Below w1.heap.size w1 w2:=((Below.refl w1.heap.size w1).drew).trans hb2
  have HS2:Hid (w2.cell? ⟨sb,2,none⟩=some (.map (some mb))∧w2.cell? ⟨sb,3,none⟩=some (.int .i64 1)):=Lib.hid ⟨(HO1.out.below hbb hlt1).1 2 _ rfl,(HO1.out.below hbb hlt1).1 3 _ rfl⟩
  obtain⟨w3,hp,_,hf3⟩:=(HE1.out.below hbb).put lawI Tryz.underlying132 key1 (.pointer (some ⟨b,0,none⟩))
  have HO3:Hid (Own w3 sb [.pointer (some ⟨db,0,none⟩),.pointer (some ⟨sp,0,none⟩),.map (some mb),.int .i64 1]):=Lib.hid ((HO1.out.below hbb hlt1).fr hf3 (Nat.lt_of_lt_of_le hlt1 hbb.size) (by simp;exact HNE.out))
  have HS3:Hid (w3.cell? ⟨sb,2,none⟩=some (.map (some mb))∧w3.cell? ⟨sb,3,none⟩=some (.int .i64 1)):=Lib.hid ⟨HO3.out.1 2 _ rfl,HO3.out.1 3 _ rfl⟩
  have HF3:Hid (Fr [sb,mb] w w3):=Lib.hid ((HF1.out.trans (Fr.of_below (F:=[]) hbb) (fun x hx=>by cases hx)).trans hf3 (fun x hx _=>by rw[List.mem_singleton.1 hx];simp))
  clear hb2 hbb hf3))
 all_goals
  have k3':=HO3.out.1 3 _ rfl
  go_wp2_with (fail)
  go_ret
  exact⟨by rfl,HF3.out⟩
def rnC (r1 r2:Nat):List Value:=[.slice none 0 0,.map (some r1),.map (some r2),.int .i64 0]
set_option maxHeartbeats 4000000 in
theorem has_any (rb r1 r2:Nat) (w:World) (hO:Own w rb (rnC r1 r2)) (h1:Emp w r1):Calls Tryz.prog 72 #[.pointer (some ⟨rb,0,none⟩),.int .i64 0] w fun e w'=>e= .returned (.bool false)∧Below w.heap.size w w':=by
 have k1:=hO.1 1 _ rfl
 have l1:=(h1.look lawI Tryz.underlying139 (zeroSt w) key0).2
 go_enter Tryz.func72,Tryz.ntmps72
 go_wp2_with (fail)
 go_ret
 exact⟨by rfl,(Below.refl _ _).alloc (Nat.le_refl _) _⟩
set_option maxHeartbeats 4000000 in
theorem ready_any (rb r1 r2:Nat) (w:World) (hO:Own w rb (rnC r1 r2)) (hlt:rb<w.heap.size) (hne:rb≠r1) (h1:Emp w r1):Calls Tryz.prog 43 #[.pointer (some ⟨rb,0,none⟩),.int .i64 0] w fun e w'=>e= .returned (.int .i64 0)∧Fr [rb,r1] w w':=by
 have HH:=Lib.hid (has_any rb r1 r2 w hO h1)
 have HO:=Lib.hid hO
 have HE:=Lib.hid h1
 have HNE:=Lib.hid hne
 clear hO h1 hne
 go_enter Tryz.func43,Tryz.ntmps43
 go_wp2_with (fail)
 refine HH.out.mono ?_
 rintro e w1 ⟨rfl,hb1⟩
 have HO1:=Lib.hid (HO.out.below hb1 hlt)
 obtain⟨w2,hp,_,hf2⟩:=(HE.out.below hb1).put lawI Tryz.underlying139 key0 (.agg #[])
 have hz1:rb<w1.heap.size:=Nat.lt_of_lt_of_le hlt hb1.size
 have HO2:=Lib.hid (HO1.out.fr hf2 hz1 (by simp;exact HNE.out))
 have hz2:rb<w2.heap.size:=Nat.lt_of_lt_of_le hz1 hf2.size
 have HF2:Hid (Fr [rb,r1] w w2):=Lib.hid ((Fr.of_below (F:=[rb,r1]) hb1).trans hf2 (fun x hx _=>by rw[List.mem_singleton.1 hx];simp))
 have k1:=HO1.out.1 1 _ rfl
 clear hb1 hf2 HH HE
 go_upto_region 4 with (fail)
 clear hp k1
 have k0:=HO2.out.1 0 _ rfl
 have f0:=HO2.out.2 0
 have HRX:Hid (Row (w2.heap.size+1) 3 1 (w2.alloc (.cells #[.int .i64 0] 3)) (.slice none 0 0) 0 []):=Lib.hid Row.nil
 have HSX:Hid (Sl (w2.alloc (.cells #[.int .i64 0] 3)) (w2.heap.size+1) 1 (.slice (some ⟨w2.heap.size,0,none⟩) 1 1) 1 (iC [0])):=Lib.hid (Sl.new w2 1 1 [.int .i64 0] 3 rfl)
 have HOA:=Lib.hid (HO2.out.below ((Below.refl w2.heap.size w2).alloc (Nat.le_refl _) (.cells #[.int .i64 0] 3)) hz2)
 go_wp2_with (at_builtin;refine append_rowM (base:=w2.heap.size+1) (size:=1) (xs:=[]) Tryz.underlying55 info_in rfl (by decide) rfl _ _ rfl rfl HRX.out rfl HSX.out (iC_one _) ?_ ?_ ?_ ?_;omega;omega;simp)
 intro v6 w6 hr6 hb6 hg6 hw6
 have hb26:Below w2.heap.size w2 w6:=((Below.refl w2.heap.size w2).alloc (Nat.le_refl _) _).trans (hb6.mono (by simp))
 have HO6:=Lib.hid (HO2.out.below hb26 hz2)
 have HF6:Hid (Fr [rb,r1] w w6):=Lib.hid (HF2.out.trans (Fr.of_below (F:=[]) hb26) (fun x hx=>by cases hx))
 obtain⟨la6,lc6,rfl,_⟩:=hr6.form
 have hz6:rb<w6.heap.size:=Nat.lt_of_lt_of_le hz2 hb26.size
 clear hr6 hb6 hg6 hw6 hb26 k0 f0 HRX HSX HOA
 have k0:=HO6.out.1 0 _ rfl
 have f0:=HO6.out.2 0
 go_wp2_with (fail)
 go_ret
 exact⟨by rfl,HF6.out.setCell (p:=⟨rb,0,none⟩) (.inl (by simp)) _⟩
end Go.Proofs.YtmdgeoalamancaaGreatDoor
namespace Go.Proofs.YtmdgeoalamancaaGreatDoor
open Go.RowKit Go.Maps Go.WideMaps
open Bt Can Mc
def cfC (q:Int):List Value:=[.string sA,.int .i64 2000,.int .i64 1,.int .i64 1,.int .i64 0,.int .i64 0,.int .i64 0,.int .i64 0,.int .i64 q,.int .i64 q]
def stC (db sp mb:Nat) (n:Int):List Value:=[.pointer (some ⟨db,0,none⟩),.pointer (some ⟨sp,0,none⟩),.map (some mb),.int .i64 n]
set_option maxHeartbeats 8000000 in
theorem sesn_any (sb mb db sp:Nat) (w:World) (hO:Own w sb (stC db sp mb 0)) (hlt:sb<w.heap.size) (hne:sb≠mb) (h1:Emp w mb):Calls Tryz.prog 41 #[.agg (cfC 9).toArray,.pointer (some ⟨sb,0,none⟩)] w fun e w'=>(∃nb,e= .returned (.tuple #[.pointer (some ⟨nb,0,none⟩),.int .i64 0]))∧Fr [sb,mb] w w':=by
 have HQ:=Lib.hid (fun w=>quotan_any w)
 have HST:=Lib.hid (fun (W:World) (hW:Below w.heap.size w W)=>stopen_any sb mb db sp W (hO.below hW hlt) (Nat.lt_of_lt_of_le hlt hW.size) hne (h1.below hW))
 have HO0:=Lib.hid (Own.new_at w (cfC 9) 53 _ rfl)
 obtain⟨w1,hw1⟩: ∃z:World,z=w.alloc (.cells (cfC 9).toArray 53):=⟨_,rfl⟩
 rw[←hw1] at HO0
 have HB1:Hid (Below w.heap.size w w1):=Lib.hid (by rw[hw1];exact (Below.refl _ _).alloc (Nat.le_refl _) _)
 have hz1:w.heap.size<w1.heap.size:=by rw[hw1];simp
 have hltw:=hlt
 have hmlt:=h1.lt
 clear hO h1 hne
 go_enter Tryz.func41,Tryz.ntmps41
 go_upto_region 1 with (fail)
 rw[←hw1]
 clear hw1
 obtain⟨cb,hcb⟩: ∃z,w.heap.size=z:=⟨_,rfl⟩
 have HCB:=Lib.hid hcb
 rw[hcb] at HO0 hz1 hlt ⊢
 clear hcb hltw
 have m8:=HO0.out.1 8 _ rfl
 have m9:=HO0.out.1 9 _ rfl
 go_wp2_with (fail)
 refine (HQ.out _).mono ?_
 rintro e w2 ⟨ab,rfl,hb2⟩
 have HO2:=Lib.hid (HO0.out.below hb2 hz1)
 have HB2:=Lib.hid (HB1.out.trans (hb2.mono HB1.out.size))
 have hz2:cb<w2.heap.size:=Nat.lt_of_lt_of_le hz1 hb2.size
 clear hb2 HQ HO0 HB1 m8 m9
 have m0:=HO2.out.1 0 _ rfl
 have m1:=HO2.out.1 1 _ rfl
 have m2:=HO2.out.1 2 _ rfl
 have m3:=HO2.out.1 3 _ rfl
 have m4:=HO2.out.1 4 _ rfl
 have m5:=HO2.out.1 5 _ rfl
 have m6:=HO2.out.1 6 _ rfl
 have m7:=HO2.out.1 7 _ rfl
 have m8:=HO2.out.1 8 _ rfl
 have m9:=HO2.out.1 9 _ rfl
 obtain⟨cs,hcs⟩: ∃z:List Value,z=[.string sA,.int .i64 2000,.int .i64 1,.int .i64 1,.int .i64 0,.int .i64 0,.int .i64 0,.int .i64 0,.int .i64 9,.int .i64 9,.pointer (some ⟨sb,0,none⟩),.pointer (some ⟨ab,0,none⟩),.pointer none,.int .u32 0,.int .i64 0,.slice none 0 0,.slice none 0 0,.int .i64 0,.int .i64 0,.int .i64 0]:=⟨_,rfl⟩
 obtain⟨w3,hw3⟩: ∃z:World,z=w2.alloc (.cells cs.toArray 152):=⟨_,rfl⟩
 have HON:Hid (Own w3 w2.heap.size cs):=Lib.hid (by rw[hw3];exact Own.new_at w2 cs _ _ rfl)
 have hb3:Below w2.heap.size w2 w3:=by rw[hw3];exact (Below.refl _ _).alloc (Nat.le_refl _) _
 have HB3:=Lib.hid (HB2.out.trans (hb3.mono HB2.out.size))
 have HO3:=Lib.hid (HO2.out.below hb3 hz2)
 have hz3:w2.heap.size<w3.heap.size:=by rw[hw3];simp
 rw[hcs] at hw3 HON
 clear hcs hb3 HB2 HO2
 go_upto_region 5 with (fail)
 rw[←hw3]
 clear hw3 m0 m1 m2 m3 m4 m5 m6 m7 m8 m9
 obtain⟨nb,hnb⟩: ∃z,w2.heap.size=z:=⟨_,rfl⟩
 rw[hnb] at HON hz3 hz2 ⊢
 clear hnb
 have m7:=HO3.out.1 7 _ rfl
 go_wp2_with (fail)
 refine (HST.out w3 HB3.out).mono ?_
 rintro e w4 ⟨rfl,hf4⟩
 have hcw:=HCB.out
 have HON4:=Lib.hid (HON.out.fr hf4 hz3 (by simp;omega))
 have HF4:Hid (Fr [sb,mb] w w4):=Lib.hid ((Fr.of_below HB3.out).trans hf4 (fun x hx _=>hx))
 have k17:=HON4.out.1 17 _ rfl
 have f17:=HON4.out.2 17
 have HNB:Hid (w.heap.size≤nb):=Lib.hid (by omega)
 clear hf4 m7 HST hcw
 go_wp2_with (fail)
 go_ret2
 exact⟨⟨_,rfl⟩,HF4.out.setCell (p:=⟨nb,17,none⟩) (.inr HNB.out) _⟩
end Go.Proofs.YtmdgeoalamancaaGreatDoor
namespace Go.Proofs.YtmdgeoalamancaaGreatDoor
open Go.RowKit Go.Maps Go.WideMaps
open Bt Can Mc
def spC (sb tb rb wm em:Nat):List Value:=[.int .i64 100,.int .i64 2,.int .i64 9,.int .i64 9,.pointer (some ⟨sb,0,none⟩),.pointer (some ⟨tb,0,none⟩),.pointer (some ⟨rb,0,none⟩),.map (some wm),.map (some em),.int .i64 0,.slice none 0 0]
def OwL (w:World) (b:Nat) (cs:List Value):Prop:=Own w b cs∧b<w.heap.size
section
variable {w w':World} {b:Nat} {cs:List Value}
theorem OwL.below (h:OwL w b cs) (hb:Below w.heap.size w w'):OwL w' b cs:=⟨h.1.below hb h.2,Nat.lt_of_lt_of_le h.2 hb.size⟩
theorem OwL.dna (h:OwL w b cs) (o:Obj):OwL (w.alloc o) b cs:=h.below ((Below.refl _ _).alloc (Nat.le_refl _) o)
theorem OwL.dnd (h:OwL w b cs):OwL w.drew b cs:=h.below (Below.refl _ _).drew
theorem OwL.new_at (w:World) (cs:List Value) (t:TypeId) (b:Nat) (hb:b=w.heap.size):OwL (w.alloc (.cells cs.toArray t)) b cs:=⟨Own.new_at w cs t b hb,by simp;omega⟩
theorem OwL.fr {F:List Nat} (h:OwL w b cs) (hf:Fr F w w') (hn:b ∉ F):OwL w' b cs:=⟨h.1.fr hf h.2 hn,Nat.lt_of_lt_of_le h.2 hf.size⟩
theorem Emp.dna (h:Emp w b) (o:Obj):Emp (w.alloc o) b:=h.below ((Below.refl _ _).alloc (Nat.le_refl _) o)
theorem Emp.dnd (h:Emp w b):Emp w.drew b:=h.below (Below.refl _ _).drew
theorem Emp.new_at (w:World) (b:Nat) (hb:b=w.heap.size):Emp (w.alloc (.map #[] 0)) b:=by rw[hb];exact Emp.new w
theorem bl_dna {X:World} (h:Below X.heap.size X w) (o:Obj):Below X.heap.size X (w.alloc o):=h.alloc h.size o
theorem bl_dnd {X:World} (h:Below X.heap.size X w):Below X.heap.size X w.drew:=h.drew
theorem bl_dn {X:World} (h:Below X.heap.size X w) (k:Below w.heap.size w w'):Below X.heap.size X w':=h.trans (k.mono h.size)
end
structure Spo (w:World) (pb sb mb tb m1 m2 rb r1 r2 wm em db sp:Nat):Prop where
 own:OwL w pb (spC sb tb rb wm em)
 st:OwL w sb (stC db sp mb 0)
 tab:OwL w tb [.slice none 0 0,.map (some m1),.map (some m2)]
 rin:OwL w rb (rnC r1 r2)
 e0:Emp w mb
 e1:Emp w m1
 e2:Emp w m2
 e3:Emp w r1
 e4:Emp w wm
 sep:pb≠sb∧pb≠mb∧pb≠m2∧pb≠rb∧pb≠r1∧pb≠wm∧sb≠mb∧sb≠m2∧mb≠m2∧rb≠m2∧rb≠sb∧rb≠mb∧rb≠wm∧rb≠r1∧r1≠m2∧r1≠sb∧r1≠mb∧r1≠wm∧wm≠m2∧wm≠sb∧wm≠mb
def Qb4 (W:World) (qb:Nat):Prop:=W.cell? ⟨qb,0,none⟩=some (.int .i64 100)∧W.cell? ⟨qb,1,none⟩=some (.int .i64 2)∧W.cell? ⟨qb,2,none⟩=some (.int .i64 9)∧W.cell? ⟨qb,3,none⟩=some (.int .i64 9)
theorem Qb4.alc {W:World} {qb:Nat} (h:Qb4 W qb) (o:Obj):Qb4 (W.alloc o) qb:=
 ⟨(World.cell?_alloc_some W _ o (by rw[h.1];rfl)).trans h.1,(World.cell?_alloc_some W _ o (by rw[h.2.1];rfl)).trans h.2.1,(World.cell?_alloc_some W _ o (by rw[h.2.2.1];rfl)).trans h.2.2.1,(World.cell?_alloc_some W _ o (by rw[h.2.2.2];rfl)).trans h.2.2.2⟩
theorem Own.qb4 {W:World} {qb:Nat} (h:Own W qb [.int .i64 100,.int .i64 2,.int .i64 9,.int .i64 9]):Qb4 W qb:=⟨h.1 0 _ rfl,h.1 1 _ rfl,h.1 2 _ rfl,h.1 3 _ rfl⟩
def SpnP (w:World) (e:Ending) (w':World):Prop:= ∃pb sb mb tb m1 m2 rb r1 r2 wm em db sp,e= .returned (.tuple #[.pointer (some ⟨pb,0,none⟩),.int .i64 0])∧Spo w' pb sb mb tb m1 m2 rb r1 r2 wm em db sp∧Below w.heap.size w w'∧w.heap.size≤pb∧w.heap.size≤sb∧w.heap.size≤mb∧w.heap.size≤m2∧w.heap.size≤rb∧w.heap.size≤r1∧w.heap.size≤wm
def confC:List Value:=[.int .i64 100,.int .i64 2,.int .i64 9,.int .i64 9]
end Go.Proofs.YtmdgeoalamancaaGreatDoor
