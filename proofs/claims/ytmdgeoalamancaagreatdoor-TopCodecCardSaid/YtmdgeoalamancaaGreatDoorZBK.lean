/- Sessions. -/
import Derived.Test.YtmdgeoalamancaaGreatDoorZBJ
set_option maxRecDepth 100000
set_option linter.unusedVariables false
set_option linter.unusedSimpArgs false
namespace Go.Proofs.YtmdgeoalamancaaGreatDoor
open Go.RowKit Go.Maps Go.WideMaps Go.Shelf Go.Sort
set_option maxHeartbeats 1000000 in
theorem sort1_any (g cap:Nat) (w:World):Calls Tryz.prog 74 #[.slice (some ⟨g,0,none⟩) 1 cap] w fun e w'=>e= .returned (.tuple #[])∧w'=w:=by
 have HL:=Lib.hid (fun W=>len1_any W)
 have HP:=Lib.hid (fun x W=>pdq1_any g cap x W)
 go_enter Tryz.func74,Tryz.ntmps74
 go_wp2_with (fail)
 refine (HL.out _).mono ?_
 rintro e w1 ⟨⟨x,rfl⟩,rfl⟩
 go_wp2_with (fail)
 refine (HP.out _ _).mono ?_
 rintro e w2 ⟨rfl,rfl⟩
 go_wp2_with (fail)
 go_end0
 exact⟨by rfl,rfl⟩
def SesP (w:World) (e:Ending) (w':World):Prop:=(∃g cap,e= .returned (.slice (some ⟨g,0,none⟩) 1 cap))∧Below w.heap.size w w'
set_option maxHeartbeats 1000000 in
theorem sorted1_any (bm b:Nat) (w:World) (hm:w.cell? ⟨bm,0,none⟩=some (.map (some b))) (hbm:bm<w.heap.size) (hown:w.ownsMap Tryz.prog 3 R1 b 1 D1):Calls Tryz.prog 44 #[.func (.func 75) #[] #[.pointer (some ⟨bm,0,none⟩)]] w (SesP w):=by
 have HC:=Lib.hid (coll_any bm b w hm hbm hown)
 have HS:=Lib.hid (fun g cap W=>sort1_any g cap W)
 clear hm hbm hown
 go_enter Tryz.func44,Tryz.ntmps44
 go_wp2_with (fail)
 refine HC.out.mono ?_
 rintro e w1 ⟨v,ss,rfl,hl,hr,hb⟩
 rw[hl] at hr
 obtain⟨g,off,cap,rfl,_⟩:=hr.sl.pos (by omega)
 have hoff:off=0:=by
  rcases row_form hr with ⟨h,_⟩|⟨g2,cap2,h,_⟩
  ·cases h
  ·injection h with h1
   injection h1 with h1
   injection h1
 subst hoff
 have HB:=Lib.hid hb
 clear hl hr hb HC
 go_wp2_with (fail)
 refine (HS.out _ _ _).mono ?_
 rintro e w2 ⟨rfl,rfl⟩
 go_wp2_with (fail)
 go_ret
 exact⟨⟨g,cap,by rfl⟩,HB.out⟩
set_option maxHeartbeats 1000000 in
theorem sessions_any (pb b:Nat) (w:World) (hk:w.cell? ⟨pb,7,none⟩=some (.map (some b))) (hown:w.ownsMap Tryz.prog 3 R1 b 1 D1):Calls Tryz.prog 21 #[.pointer (some ⟨pb,0,none⟩)] w (SesP w):=by
 have HK:Hid (∀W:World,Calls Tryz.prog 45 #[.map (some b)] W fun e w'=>e= .returned (.func (.func 75) #[] #[.pointer (some ⟨W.heap.size,0,none⟩)])∧w'=W.alloc (.cells #[.map (some b)] 83)):=Lib.hid (fun W=>by
  have hmf: ∀(fn:Fn) (first cap:Array Value) (w:World),(Instr.makeFunc fn first cap).run Tryz.prog w= .ok (.func fn first cap) w:=fun _ _ _ _=>rfl
  go_enter Tryz.func45,Tryz.ntmps45
  go_wp2_with (fail)
  go_ret
  exact⟨by rfl,rfl⟩)
 have hba:Below w.heap.size w (w.alloc (.cells #[.map (some b)] 83)):=(Below.refl _ _).alloc (Nat.le_refl _) _
 have hown2:(w.alloc (.cells #[.map (some b)] 83)).ownsMap Tryz.prog 3 R1 b 1 D1:=hown.alloc _
 have HSR:=Lib.hid (sorted1_any w.heap.size b _ (by rw[World.cell?_alloc_at _ _ _ _ rfl];rfl) (by simp) hown2)
 have HBA:=Lib.hid hba
 clear hown hba hown2
 go_enter Tryz.func21,Tryz.ntmps21
 go_wp2_with (fail)
 refine (HK.out _).mono ?_
 rintro e w1 ⟨rfl,rfl⟩
 go_wp2_with (fail)
 refine HSR.out.mono ?_
 rintro e w2 ⟨⟨g,cap,rfl⟩,hb⟩
 have HB:=Lib.hid (HBA.out.trans (hb.mono HBA.out.size))
 clear hb HSR HBA HK hk
 go_wp2_with (fail)
 go_ret
 exact⟨⟨g,cap,by rfl⟩,HB.out⟩
end Go.Proofs.YtmdgeoalamancaaGreatDoor
