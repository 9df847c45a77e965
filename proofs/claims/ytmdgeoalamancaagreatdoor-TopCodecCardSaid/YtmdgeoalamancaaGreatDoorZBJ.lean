/- maps.Keys, slices.Collect: the kit's contracts at this program's maps of writers. Sessions: the keys of a map of one writer, in order. -/
import Derived.Test.YtmdgeoalamancaaGreatDoorZBG
import Derived.Shelf.SlIterI.Keys
import Derived.Shelf.SlIterI.Collect
import Derived.Test.YtmdgeoalamancaaGreatDoorZBH
set_option maxRecDepth 100000
set_option linter.unusedVariables false
set_option linter.unusedSimpArgs false
namespace Go.Proofs.YtmdgeoalamancaaGreatDoor
open Go.RowKit Go.Maps Go.WideMaps Go.Shelf
def kren:Go.Shelf.Ren:=⟨fun|7=>45|8=>73|10=>75|11=>113|n=>n,fun|3=>88|4=>4|23=>83|24=>55|26=>3|27=>98|28=>99|33=>154|n=>n,fun|n=>n⟩
theorem lay10:Go.Proofs.SlLaysZI.n10 Tryz.prog kren:={
 mixed:=by kernel_rfl
 f10:=⟨Tryz.f75.name,by kernel_rfl,Tryz.func75.trans (congrArg some (by kernel_rfl))⟩
 t0:=by kernel_rfl
 a0:=fun w=>by kernel_rfl
 z0:=fun w=>by kernel_rfl
 v0:=fun w=>by kernel_rfl
 t4:=by kernel_rfl
 a4:=fun w=>by kernel_rfl
 z4:=fun w=>by kernel_rfl
 v4:=fun w=>by kernel_rfl
 t23:=by kernel_rfl
 a23:=fun w=>by kernel_rfl
 z23:=fun w=>by kernel_rfl
 v23:=fun w=>by kernel_rfl
 t26:=by kernel_rfl
 a26:=fun w=>by kernel_rfl
 z26:=fun w=>by kernel_rfl
 v26:=fun w=>by kernel_rfl
 t33:=by kernel_rfl
 a33:=fun w=>by kernel_rfl
 z33:=fun w=>by kernel_rfl
 v33:=fun w=>by kernel_rfl}
theorem lay8:Go.Proofs.SlLaysZI.n8 Tryz.prog kren:={
 mixed:=by kernel_rfl
 f8:=⟨Tryz.f73.name,by kernel_rfl,Tryz.func73.trans (congrArg some (by kernel_rfl))⟩
 f11:=⟨Tryz.f113.name,by kernel_rfl,Tryz.func113.trans (congrArg some (by kernel_rfl))⟩
 t0:=by kernel_rfl
 a0:=fun w=>by kernel_rfl
 z0:=fun w=>by kernel_rfl
 v0:=fun w=>by kernel_rfl
 t24:=by kernel_rfl
 a24:=fun w=>by kernel_rfl
 z24:=fun w=>by kernel_rfl
 v24:=fun w=>by kernel_rfl
 t26:=by kernel_rfl
 a26:=fun w=>by kernel_rfl
 z26:=fun w=>by kernel_rfl
 v26:=fun w=>by kernel_rfl
 t28:=by kernel_rfl
 a28:=fun w=>by kernel_rfl
 z28:=fun w=>by kernel_rfl
 v28:=fun w=>by kernel_rfl
 i26:=by kernel_rfl}
end Go.Proofs.YtmdgeoalamancaaGreatDoor
namespace Go.Proofs.YtmdgeoalamancaaGreatDoor
open Go.RowKit Go.Maps Go.WideMaps Go.Shelf Go.Sort
def D1:DataW Unit:=(DataW.map []).put (.int .i64 0) (.lit (.bool true))
def R1:Value→Option (DataW Unit × List MemPlace):=fun _=>some (.lit (.bool true),[])
theorem coll_any (bm b:Nat) (w:World) (hm:w.cell? ⟨bm,0,none⟩=some (.map (some b))) (hbm:bm<w.heap.size) (hown:w.ownsMap Tryz.prog 3 R1 b 1 D1):Calls Tryz.prog 73 #[.func (.func 75) #[] #[.pointer (some ⟨bm,0,none⟩)]] w fun e w'=> ∃(v:Value) (ss:List Int),e= .returned v∧ss.length=1∧Row w.heap.size 3 1 w' v ss.length (ss.map encZ)∧Below w.heap.size w w':=by
 have hk:intKeys D1=[0]:=by rfl
 have hs:Maps.size D1=1:=by rfl
 have hg:=AnyZI.keys_gives lay10 Fence.wide 3 trivial rfl (by omega) bm b 1 D1 (R:=R1) w hbm hm hown
 have hc:=AnyZI.collect_in lay8 Fence.wide 5 trivial trivial rfl (by omega) 75 #[.pointer (some ⟨bm,0,none⟩)] trivial (enters_of Tryz.func75 (by kernel_rfl) rfl) _ _ (by rw[hs];unfold maxLen;omega) (by rw[hs];omega) w hg
 refine (callsIn_wide.1 hc).mono ?_
 rintro e w' ⟨v,ss,rfl,hp,hr,_,hb⟩
 rw[hk] at hp
 exact⟨v,ss,rfl,hp.length_eq,hr,hb⟩
set_option maxHeartbeats 1000000 in
theorem ins1_any (g cap:Nat) (w:World):Calls Tryz.prog 143 #[.slice (some ⟨g,0,none⟩) 1 cap,.int .i64 0,.int .i64 1] w fun e w'=>e= .returned (.tuple #[])∧w'=w:=by
 go_enter Tryz.func143,Tryz.ntmps143
 go_wp2_with (fail)
 refine wp_loop_rounds 1 ?_
 rw[rounds_succ]
 go_wp2_with (fail)
 go_end0
 exact⟨by rfl,rfl⟩
set_option maxHeartbeats 1000000 in
theorem pdq1_any (g cap:Nat) (x:Int) (w:World):Calls Tryz.prog 114 #[.slice (some ⟨g,0,none⟩) 1 cap,.int .i64 0,.int .i64 1,.int .i64 x] w fun e w'=>e= .returned (.tuple #[])∧w'=w:=by
 have HI:=Lib.hid (fun W=>ins1_any g cap W)
 go_enter Tryz.func114,Tryz.ntmps114
 go_wp2_with (fail)
 refine wp_loop_rounds 1 ?_
 rw[rounds_succ]
 go_wp2_with (fail)
 refine (HI.out _).mono ?_
 rintro e w1 ⟨rfl,rfl⟩
 go_wp2_with (fail)
 (try simp only[Exit.inBlock,Exit.then])
 refine bodyPost_ret (results_none rfl _ _ _) rfl ?_
 exact⟨by rfl,rfl⟩
set_option maxHeartbeats 1000000 in
theorem len1_any (w:World):Calls Tryz.prog 115 #[.int .u64 1] w fun e w'=>(∃x:Int,e= .returned (.int .i64 x))∧w'=w:=by
 have HL:Hid (∀W:World,Calls Tryz.prog 153 #[.int .u64 1] W fun e w'=>(∃x:Int,e= .returned (.int .i64 x))∧w'=W):=Lib.hid (fun W=>by
  go_enter Tryz.func153,Tryz.ntmps153
  go_wp2_with (fail)
  go_ret
  exact⟨⟨_,by rfl⟩,rfl⟩)
 go_enter Tryz.func115,Tryz.ntmps115
 go_wp2_with (fail)
 refine (HL.out _).mono ?_
 rintro e w1 ⟨⟨x,rfl⟩,rfl⟩
 go_wp2_with (fail)
 go_ret
 exact⟨⟨_,by rfl⟩,rfl⟩
end Go.Proofs.YtmdgeoalamancaaGreatDoor
