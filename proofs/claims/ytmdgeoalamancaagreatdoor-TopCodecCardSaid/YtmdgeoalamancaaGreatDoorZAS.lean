/- Sorting by exchanges, in memory: rows of elements of one cell. insertionSort, in memory. symMerge where one run is one element. symMerge where the right run is one element. -/
import Derived.Test.YtmdgeoalamancaaGreatDoorZAR
import Derived.Test.YtmdgeoalamancaaGreatDoorZAA
import Derived.Lib.Hide
import Derived.OwnWalk
import Derived.IntWalk
import Derived.BigQuiet
import Derived.BigRegion
import Derived.Laws.Rows
import Derived.Deep.DeepCutAuto
set_option maxRecDepth 100000
set_option linter.unusedVariables false
set_option linter.unusedSimpArgs false
namespace Go.Proofs.YtmdgeoalamancaaGreatDoor
open Go.RowKit
variable {zz:Nat}
structure Arr (w:World) (b n:Nat) (f:Nat→El zz):Prop where
 cell: ∀k,k<n→w.cell? ⟨b,k,none⟩=some (enc (f k))
 free: ∀k,w.frozen? ⟨b,k,none⟩=false
 lt:b<w.heap.size
section
variable {w w':World} {b n:Nat} {f:Nat→El zz}
theorem Arr.below (h:Arr w b n f) {B:Nat} (hb:Below B w w') (hB:b<B):Arr w' b n f:=
 ⟨fun k hk=>(hb.cell (p:=⟨b,k,none⟩) hB).trans (h.cell k hk),fun k=>(hb.frozen (p:=⟨b,k,none⟩) hB).trans (h.free k),Nat.lt_of_lt_of_le h.lt hb.size⟩
theorem Arr.up (h:Arr w b n f) (hb:Below w.heap.size w w'):Arr w' b n f:=h.below hb h.lt
theorem Arr.kept (h:Arr w b n f) {row:Option Nat} (hg:w.grownBy w' row) (hne:some b≠row):Arr w' b n f:=
 ⟨fun k hk=>hg.cell (h.cell k hk) hne,fun k=>(World.frozen?_of_block (hg.block b h.lt hne)).trans (h.free k),Nat.lt_of_lt_of_le h.lt hg.size⟩
theorem Arr.set (h:Arr w b n f) (k:Nat) (x:El zz):Arr (w.setCell ⟨b,k,none⟩ (enc x)) b n (updF f k x):=by
 refine⟨fun j hj=> ?_,fun j=>by rw[World.frozen?_setCell];exact h.free j,by simpa using h.lt⟩
 unfold updF
 by_cases e:j=k
 ·subst e
  rw[if_pos rfl]
  exact World.cell?_setCell_same _ _ _ (h.cell j hj)
 ·rw[if_neg e,World.cell?_setCell_other _ _ _ _ (by simp<;>omega)]
  exact h.cell j hj
theorem updF_swp (f:Nat→El zz) (i j:Nat):updF (updF f i (f j)) j (f i)=swp f i j:=by
 by_cases e:i=j
 ·subst e
  funext k
  unfold updF swp
  split
  ·rfl
  ·rfl
 ·exact (swp_upd f i j e).symm
theorem Arr.swap (h:Arr w b n f) (i j:Nat):Arr ((w.setCell ⟨b,i,none⟩ (enc (f j))).setCell ⟨b,j,none⟩ (enc (f i))) b n (swp f i j):=by
 rw[←updF_swp]
 exact (h.set i (f j)).set j (f i)
theorem Arr.sub (h:Arr w b n f) {m:Nat} (hm:m≤n):Arr w b m f:=⟨fun k hk=>h.cell k (by omega),h.free,h.lt⟩
end
abbrev Gr (b:Nat) (w w':World):Prop:=w.grownBy w' (some b)
theorem Gr.refl (b:Nat) (w:World):Gr b w w:=World.grownBy.refl w _
theorem Gr.trans {b:Nat} {w w' w'':World} (h:Gr b w w') (h':Gr b w' w''):Gr b w w'':=
 ⟨h'.os.trans h.os,h'.tape.trans h.tape,h'.output.trans h.output,Nat.le_trans h.size h'.size,fun k hk hne=>(h'.block k (Nat.lt_of_lt_of_le hk h.size) hne).trans (h.block k hk hne)⟩
theorem Gr.up {b:Nat} {w w' w'':World} (h:Gr b w w') (h':Below w'.heap.size w' w''):Gr b w w'':=
 h.trans ⟨h'.os,h'.tape,h'.output,h'.size,fun k hk _=>h'.block k hk⟩
theorem Gr.set {b:Nat} {w w':World} (h:Gr b w w') (k:Nat) (v:Value):Gr b w (w'.setCell ⟨b,k,none⟩ v):=by
 have hb:Below b w' (w'.setCell ⟨b,k,none⟩ v):=(Below.refl b w').setCell (p:=⟨b,k,none⟩) (Nat.le_refl _) v
 refine h.trans ⟨hb.os,hb.tape,hb.output,hb.size,fun j hj hne=> ?_⟩
 exact heap_setCell_other w' ⟨b,k,none⟩ j v (fun e=>hne (by rw[e]))
theorem Gr.below {b B:Nat} {w w':World} (h:Gr b w w') (hB:B≤b) (hB':B≤w.heap.size):Below B w w':=
 (Below.refl B w).grown h hB' (fun k hk=>by cases hk;exact hB)
set_option maxHeartbeats 4000000 in
theorem swapRange_any (blk n cap a b m:Nat) (f:Nat→El zz) (fv:Value) (w:World) (hA:Arr w blk n f) (hn:n≤1000000) (ha:a+m≤n) (hb:b+m≤n) (hd:a+m≤b∨b+m≤a):
  Calls Tryz.prog 221 #[.slice (some ⟨blk,0,none⟩) n cap,.int .i64 (a:Nat),.int .i64 (b:Nat),.int .i64 (m:Nat),fv] w fun e w'=>e= .returned (.tuple #[])∧Arr w' blk n (swR f a b m)∧Gr blk w w':=by
 have HA:=Lib.hid hA
 clear hA
 go_enter Tryz.func221,Tryz.ntmps221
 go_wp2_with (fail)
 go_loopw [10] (fun i wr=> ∃j:Nat,i= .int .i64 j∧j≤m∧Hid (Arr wr blk n (swR f a b j))∧Hid (Gr blk w wr)) (fun i _=>m-(intOf i).toNat)
 case atStart=>exact⟨0,rfl,by omega,Lib.hid (by rw[swR_start];exact HA.out),Lib.hid (Gr.refl _ _)⟩
 case round=>
  clear HA
  obtain⟨i,rfl,hi,HA,HG⟩:=hrel
  by_cases hlt:i<m
  rotate_left
  ·have d1:decide (i<m)=false:=decide_eq_false (by omega)
   have d2:decide ((i:Int)<(m:Int))=false:=decide_eq_false (by omega)
   have e:i=m:=by omega
   subst e
   clear hlt
   go_wp2_with (fail)
   go_end0
   exact⟨by rfl,HA.out,HG.out⟩
  have d1:decide (i<m)=true:=decide_eq_true hlt
  have d2:decide ((i:Int)<(m:Int))=true:=decide_eq_true (by omega)
  have q1:IntKind.i64.wrap ((i:Int)+1)=(i:Int)+1:=IntWalk.i64_in _ (by omega)
  have q2:IntKind.i64.wrap ((a:Int)+(i:Int))=((a+i:Nat):Int):=by rw[IntWalk.i64_in _ (by omega)];omega
  have q3:IntKind.i64.wrap ((b:Int)+(i:Int))=((b+i:Nat):Int):=by rw[IntWalk.i64_in _ (by omega)];omega
  have b1:a+i<n:=by omega
  have b2:b+i<n:=by omega
  have b3:((a+i:Nat):Int)<(n:Int):=by omega
  have b4:((b+i:Nat):Int)<(n:Int):=by omega
  have HST:=Lib.hid (swR_step f a b i m hlt hd)
  generalize hga:a+i=ai at*
  generalize hgb:b+i=bi at*
  have HGA:=Lib.hid hga
  have HGB:=Lib.hid hgb
  clear hga hgb
  generalize swR f a b i=g at*
  obtain⟨wo,rfl⟩: ∃z:World,z=wr:=⟨_,rfl⟩
  go_upto_region 3 with (fail)
  have c1:=HA.out.cell ai b1
  have c2:=HA.out.cell bi b2
  have f1:=HA.out.free ai
  have f2:=HA.out.free bi
  have hne:ai≠bi:=by have:=HGA.out;have:=HGB.out;omega
  obtain⟨x1,hx1⟩: ∃z,enc (g ai)= .int .i64 z:=⟨_,rfl⟩
  obtain⟨x2,hx2⟩: ∃z,enc (g bi)= .int .i64 z:=⟨_,rfl⟩
  rw[hx1] at c1
  rw[hx2] at c2
  have HX1:=Lib.hid hx1
  have HX2:=Lib.hid hx2
  clear hx1 hx2
  go_region
  all_goals
   have HA2:Hid (Arr ((wo.setCell ⟨blk,ai,none⟩ (.int .i64 x2)).setCell ⟨blk,bi,none⟩ (.int .i64 x1)).drew blk n (swR f a b (i+1))):=Lib.hid (by
    rw[←HST.out]
    have h1:=HA.out.swap ai bi
    rw[HX1.out,HX2.out] at h1
    exact h1.up (Below.refl _ _).drew)
   have HG2:Hid (Gr blk w ((wo.setCell ⟨blk,ai,none⟩ (.int .i64 x2)).setCell ⟨blk,bi,none⟩ (.int .i64 x1)).drew):=Lib.hid (((HG.out.set _ _).set _ _).up (Below.refl _ _).drew)
   generalize ((wo.setCell ⟨blk,ai,none⟩ (.int .i64 x2)).setCell ⟨blk,bi,none⟩ (.int .i64 x1)).drew=w2 at*
   clear c1 c2 f1 f2 b3 b4 q2 q3
   go_wp2_with (fail)
   go_roundw
   case rel=>exact⟨i+1,rfl,hlt,HA2,HG2⟩
   case measure=>simp[intOf]<;>omega
set_option maxHeartbeats 4000000 in
theorem rotate_any (blk n cap s m e:Nat) (f:Nat→El zz) (fv:Value) (w:World) (hA:Arr w blk n f) (hn:n≤1000000) (h1:s<m) (h2:m<e) (h3:e≤n):
  Calls Tryz.prog 220 #[.slice (some ⟨blk,0,none⟩) n cap,.int .i64 (s:Nat),.int .i64 (m:Nat),.int .i64 (e:Nat),fv] w fun r w'=>r= .returned (.tuple #[])∧Arr w' blk n (rotF f s m e)∧Gr blk w w':=by
 have HA:=Lib.hid hA
 have q1:IntKind.i64.wrap ((m:Int)-(s:Int))=((m-s:Nat):Int):=by rw[IntWalk.i64_in _ (by omega)];omega
 have q2:IntKind.i64.wrap ((e:Int)-(m:Int))=((e-m:Nat):Int):=by rw[IntWalk.i64_in _ (by omega)];omega
 have HS:Hid (rotF f (m-(m-s)) m (m+(e-m))=rotF f s m e):=Lib.hid (by rw[show m-(m-s)=s by omega,show m+(e-m)=e by omega])
 clear hA
 go_enter Tryz.func220,Tryz.ntmps220
 go_wp2_with (fail)
 have b1:m-s≤m:=by omega
 have b2:m+(e-m)≤n:=by omega
 have b3:0<m-s:=by omega
 have b4:0<e-m:=by omega
 generalize m-s=i0 at*
 generalize e-m=j0 at*
 clear q1 q2
 go_loopw [10,11] (fun x y wr=> ∃(i j:Nat) (g:Nat→El zz),x= .int .i64 i∧y= .int .i64 j∧0<i∧0<j∧i≤m∧m+j≤n∧Hid (rotF g (m-i) m (m+j)=rotF f s m e)∧Hid (Arr wr blk n g)∧Hid (Gr blk w wr)) (fun x y _=>(intOf x).toNat+(intOf y).toNat)
 case atStart=>exact⟨i0,j0,f,rfl,rfl,b3,b4,b1,b2,HS,HA,Lib.hid (Gr.refl _ _)⟩
 case round=>
  clear HA HS b1 b2 b3 b4
  obtain⟨i,j,g,rfl,rfl,i1,j1,i2,j2,HS,HA,HG⟩:=hrel
  obtain⟨wo,rfl⟩: ∃z:World,z=wr:=⟨_,rfl⟩
  have q3:IntKind.i64.wrap ((m:Int)-(i:Int))=((m-i:Nat):Int):=by rw[IntWalk.i64_in _ (by omega)];omega
  rcases Nat.lt_trichotomy i j with hc|hc|hc
  ·have d1:((i:Int) != (j:Int))=true:=by simp;omega
   have d2:decide ((j:Int)<(i:Int))=false:=decide_eq_false (by omega)
   have q4:IntKind.i64.wrap ((m:Int)+(j:Int))=(m:Int)+(j:Int):=by rw[IntWalk.i64_in _ (by omega)]
   have q5:IntKind.i64.wrap ((m:Int)+(j:Int)-(i:Int))=((m+j-i:Nat):Int):=by rw[IntWalk.i64_in _ (by omega)];omega
   have q6:IntKind.i64.wrap ((j:Int)-(i:Int))=((j-i:Nat):Int):=by rw[IntWalk.i64_in _ (by omega)];omega
   have HW:=Lib.hid (swapRange_any blk n cap (m-i) (m+j-i) i g fv wo HA.out hn (by omega) (by omega) (.inl (by omega)))
   have HS:Hid (rotF (swR g (m-i) (m+j-i) i) (m-i) m (m+(j-i))=rotF f s m e):=Lib.hid (by
    have:=rotF_less g m i j hc i2
    rw[show m+(j-i)=m+j-i by omega,this]
    exact HS.out)
   have b5:0<j-i:=by omega
   have b6:m+(j-i)≤n:=by omega
   have b7:i+(j-i)<i+j:=by omega
   generalize swR g (m-i) (m+j-i) i=g' at*
   obtain⟨mi,hmi⟩: ∃z,m-i=z:=⟨_,rfl⟩
   rw[hmi] at q3 HW
   clear hmi
   generalize m+j-i=mj at*
   generalize j-i=ji at*
   go_wp2_with (fail)
   refine HW.out.mono ?_
   rintro r w1 ⟨rfl,ha,hg⟩
   have HA:=Lib.hid ha
   have HG:=Lib.hid (HG.out.trans hg)
   clear ha hg HW
   go_wp2_with (fail)
   go_roundw
   case rel=>exact⟨i,ji,g',rfl,rfl,i1,b5,i2,b6,HS,HA,HG⟩
   case measure=>simp[intOf]<;>omega
  ·subst hc
   have d1:((i:Int) != (i:Int))=false:=by simp
   have HW:=Lib.hid (swapRange_any blk n cap (m-i) m i g fv wo HA.out hn (by omega) (by omega) (.inl (by omega)))
   have HS2:Hid (swR g (m-i) m i=rotF f s m e):=Lib.hid (by rw[rotF_even g m i i2];exact HS.out)
   clear HS
   generalize swR g (m-i) m i=g' at*
   generalize m-i=mi at*
   go_wp2_with (fail)
   refine HW.out.mono ?_
   rintro r w1 ⟨rfl,ha,hg⟩
   rw[HS2.out] at ha
   have HA:=Lib.hid ha
   have HG:=Lib.hid (HG.out.trans hg)
   clear ha hg HW
   go_wp2_with (fail)
   go_end0
   exact⟨by rfl,HA.out,HG.out⟩
  ·have d1:((i:Int) != (j:Int))=true:=by simp;omega
   have d2:decide ((j:Int)<(i:Int))=true:=decide_eq_true (by omega)
   have q6:IntKind.i64.wrap ((i:Int)-(j:Int))=((i-j:Nat):Int):=by rw[IntWalk.i64_in _ (by omega)];omega
   have HW:=Lib.hid (swapRange_any blk n cap (m-i) m j g fv wo HA.out hn (by omega) (by omega) (.inl (by omega)))
   have HS:Hid (rotF (swR g (m-i) m j) (m-(i-j)) m (m+j)=rotF f s m e):=Lib.hid (by
    have:=rotF_more g m i j hc i2
    rw[show m-(i-j)=m-i+j by omega,this]
    exact HS.out)
   have b5:0<i-j:=by omega
   have b6:i-j≤m:=by omega
   have b7:i-j+j<i+j:=by omega
   generalize swR g (m-i) m j=g' at*
   obtain⟨mi,hmi⟩: ∃z,m-i=z:=⟨_,rfl⟩
   rw[hmi] at q3 HW
   clear hmi
   generalize i-j=ij at*
   go_wp2_with (fail)
   refine HW.out.mono ?_
   rintro r w1 ⟨rfl,ha,hg⟩
   have HA:=Lib.hid ha
   have HG:=Lib.hid (HG.out.trans hg)
   clear ha hg HW
   go_wp2_with (fail)
   go_roundw
   case rel=>exact⟨ij,j,g',rfl,rfl,b5,j1,b6,j2,HS,HA,HG⟩
   case measure=>simp[intOf]<;>omega
end Go.Proofs.YtmdgeoalamancaaGreatDoor
namespace Go.Proofs.YtmdgeoalamancaaGreatDoor
open Go.RowKit
variable {zz:Nat}
def CmpOK (g:Nat) (cb:Array Value) (cf:El zz→El zz→Int) (b:Nat) (w:World):Prop:=
 ∀W,Gr b w W→ ∀x y:El zz,Calls Tryz.prog g (#[enc x,enc y]++cb) W fun e w'=>e= .returned (.int .i64 (cf x y))∧Below W.heap.size W w'
theorem CmpOK.up {g:Nat} {cb:Array Value} {cf:El zz→El zz→Int} {b:Nat} {w w':World} (h:CmpOK g cb cf b w) (hg:Gr b w w'):CmpOK g cb cf b w':=fun W hW=>h W (hg.trans hW)
def InsOut (le:El zz→El zz→Prop) (f:Nat→El zz) (blk n a b:Nat) (w:World) (e:Ending) (w':World):Prop:=
 e= .returned (.tuple #[])∧(∃g,Sw a b f g∧Srt le g a b∧Arr w' blk n g)∧Gr blk w w'
theorem InsOut.mk {le:El zz→El zz→Prop} {f g:Nat→El zz} {blk n a b:Nat} {w w':World} (h1:Sw a b f g) (h2:Srt le g a b) (h3:Arr w' blk n g) (h4:Gr blk w w'):InsOut le f blk n a b w (.returned (.tuple #[])) w':=⟨rfl,⟨g,h1,h2,h3⟩,h4⟩
theorem srt_small (le:El zz→El zz→Prop) (f:Nat→El zz) (a b:Nat) (h:b≤a+1):Srt le f a b:=fun i j h1 h2 h3=>by omega
set_option maxHeartbeats 8000000 in
theorem insertion_any (blk n cap a b gc:Nat) (cb:Array Value) (cf:El zz→El zz→Int) (le R:El zz→El zz→Prop) (f:Nat→El zz) (w:World) (hA:Arr w blk n f) (hn:n≤1000000) (hab:a≤b) (hb:b≤n)
  (o:Ord le) (hcf: ∀x y,R x y→(cf x y<0↔ ¬le y x)) (hR: ∀i k,a≤k→k<i→i<b→R (f i) (f k)) (hC:CmpOK gc cb cf blk w) (heg: ∀args W,(callFunc gc args).run Tryz.prog W= .ok (.enter gc args) W):
  Calls Tryz.prog 216 #[.slice (some ⟨blk,0,none⟩) n cap,.int .i64 (a:Nat),.int .i64 (b:Nat),.func (.func gc) #[] cb] w (InsOut le f blk n a b w):=by
 have HA:=Lib.hid hA
 have HC:=Lib.hid hC
 have HO:=Lib.hid o
 have HF:=Lib.hid hcf
 have HR:=Lib.hid hR
 have q1:IntKind.i64.wrap ((a:Int)+1)=((a+1:Nat):Int):=by rw[IntWalk.i64_in _ (by omega)];omega
 clear hA hC o hcf hR
 go_enter Tryz.func216,Tryz.ntmps216
 go_wp2_with (fail)
 go_loopw [8] (fun x wr=> ∃(i:Nat) (g:Nat→El zz),x= .int .i64 i∧a<i∧(i≤b∨i=a+1)∧Hid (Sw a (if i≤b then i else b) f g)∧Hid (Srt le g a i)∧Hid (Arr wr blk n g)∧Hid (Gr blk w wr)) (fun x _=>b+1-(intOf x).toNat)
 case atStart=>exact⟨a+1,f,rfl,by omega,.inr rfl,Lib.hid .refl,Lib.hid (srt_small _ _ _ _ (by omega)),HA,Lib.hid (Gr.refl _ _)⟩
 case round=>
  clear HA q1
  obtain⟨i,g0,rfl,i1,i2,HS,HT,HA,HG⟩:=hrel
  by_cases hlt:i<b
  rotate_left
  ·have d1:decide (i<b)=false:=decide_eq_false (by omega)
   have d2:decide ((i:Int)<(b:Int))=false:=decide_eq_false (by omega)
   go_wp2_with (fail)
   go_end0
   refine InsOut.mk (HS.out.mono (Nat.le_refl _) (by split<;>omega)) ?_ HA.out HG.out
   exact HT.out.sub (Nat.le_refl _) (by omega)
  have d1:decide (i<b)=true:=decide_eq_true hlt
  have d2:decide ((i:Int)<(b:Int))=true:=decide_eq_true (by omega)
  have q1:IntKind.i64.wrap ((i:Int)+1)=((i+1:Nat):Int):=by rw[IntWalk.i64_in _ (by omega)];omega
  have HJ:=Lib.hid (InsJ.start (R:=R) (f:=f) (by have:=HS.out;rwa [if_pos (show i≤b by omega)] at this) HT.out (fun k k1 k2=>HR.out i k k1 k2 hlt))
  obtain⟨wo,rfl⟩: ∃z:World,z=wr:=⟨_,rfl⟩
  clear HS HT i2
  go_wp2_with (fail)
  go_loopw [9] (fun x wr=> ∃(j:Nat) (g:Nat→El zz),x= .int .i64 j∧a≤j∧j≤i∧Hid (InsJ le R f g a i j)∧Hid (Arr wr blk n g)∧Hid (Gr blk w wr)) (fun x _=>(intOf x).toNat)
  case atStart=>exact⟨i,g0,rfl,by omega,Nat.le_refl _,HJ,HA,HG⟩
  case round=>
   clear HA HG HJ
   obtain⟨j,g,rfl,j1,j2,HJ,HA,HG⟩:=hrel
   obtain⟨w2,rfl⟩: ∃z:World,z=wr:=⟨_,rfl⟩
   by_cases hja:a<j
   ·obtain⟨jp,rfl⟩: ∃jp,j=jp+1:=⟨j-1,by omega⟩
    have b1:jp+1<n:=by omega
    have b2:jp<n:=by omega
    have b3:((jp:Int)+1)<(n:Int):=by omega
    have b4:(jp:Int)<(n:Int):=by omega
    have t1:decide ((a:Int)<(jp:Int)+1)=true:=decide_eq_true (by omega)
    have q2:IntKind.i64.wrap ((jp:Int)+1-1)=(jp:Int):=by rw[IntWalk.i64_in _ (by omega)];omega
    have q3:IntKind.i64.wrap (jp:Int)=(jp:Int):=IntWalk.i64_in _ (by omega)
    have e0:((jp:Int)+1).toNat=jp+1:=by omega
    have p0:(0:Int)≤(jp:Int)+1:=by omega
    go_upto_region 4 with (fail)
    refine Mono.region_below (by kernel_rfl) (by kernel_rfl) (by kernel_rfl) ?_
    refine Mono.rgl_val (v:= ?vy0) rfl Mono.rr (fun ρ a W hR hd hf=> ?hy0) ?_
    case hy0=>
     have e9:=Mono.init_get hf (t:=9) (by kernel_rfl)
     clear hd hf
     (go_simp;try with_reducible rfl)
    refine Mono.rgl_val (v:= ?vy1) rfl Mono.rr (fun ρ a W hR hd hf=> ?hy1) ?_
    case hy1=>
     have e1:=Mono.init_get hf (t:=1) (by kernel_rfl)
     clear hd hf
     (go_simp;try with_reducible rfl)
    refine Mono.rgl_val (v:= ?vy2) rfl Mono.rr (fun ρ a W hR hd hf=> ?hy2) ?_
    case hy2=>
     have e18:=Mono.dep_val hd hf (t:=18) (k:=0) (by kernel_rfl) rfl
     have e19:=Mono.dep_val hd hf (t:=19) (k:=1) (by kernel_rfl) rfl
     clear hd hf
     (go_simp;try with_reducible rfl)
    refine Mono.rgl_val (v:= ?vy3) rfl Mono.rr (fun ρ a W hR hd hf=> ?hy3) ?_
    case hy3=>
     have e20:=Mono.dep_val hd hf (t:=20) (k:=2) (by kernel_rfl) rfl
     clear hd hf
     (go_simp;try with_reducible rfl)
    refine Mono.rgl_valg (v:= ?vy4) rfl Mono.rr (fun ρ W hd=>Mono.guard_val hd (t:=21) (k:=3) (by kernel_rfl) rfl) (fun ρ a W hR hd hf=> ?hy4) ?_
    case hy4=>
     have e3:=Mono.init_get hf (t:=3) (by kernel_rfl)
     clear hd hf
     (go_simp;try with_reducible rfl)
    refine Mono.rgl_valg (v:= ?vy5) rfl Mono.rr (fun ρ W hd=>Mono.guard_val hd (t:=21) (k:=3) (by kernel_rfl) rfl) (fun ρ a W hR hd hf=> ?hy5) ?_
    case hy5=>
     have e0:=Mono.init_get hf (t:=0) (by kernel_rfl)
     clear hd hf
     (go_simp;try with_reducible rfl)
    refine Mono.rgl_valg (v:= ?vy6) rfl Mono.rr (fun ρ W hd=>Mono.guard_val hd (t:=21) (k:=3) (by kernel_rfl) rfl) (fun ρ a W hR hd hf=> ?hy6) ?_
    case hy6=>
     have e9:=Mono.init_get hf (t:=9) (by kernel_rfl)
     clear hd hf
     (go_simp;try with_reducible rfl)
    refine Mono.rgl_valg (v:= ?vy7) rfl Mono.rr (fun ρ W hd=>Mono.guard_val hd (t:=21) (k:=3) (by kernel_rfl) rfl) (fun ρ a W hR hd hf=> ?hy7) ?_
    case hy7=>
     have e23:=Mono.dep_val hd hf (t:=23) (k:=5) (by kernel_rfl) rfl
     have e24:=Mono.dep_val hd hf (t:=24) (k:=6) (by kernel_rfl) rfl
     clear hd hf
     (go_simp;try with_reducible rfl)
    refine Mono.rgl_valg (v:= ?vy8) rfl Mono.rr (fun ρ W hd=>Mono.guard_val hd (t:=21) (k:=3) (by kernel_rfl) rfl) (fun ρ a W hR hd hf=> ?hy8) ?_
    case hy8=>
     have e25:=Mono.dep_val hd hf (t:=25) (k:=7) (by kernel_rfl) rfl
     have hk:=(HA.out.up hR).cell (jp+1) b1
     clear hd hf
     (go_simp;try with_reducible rfl)
    refine Mono.rgl_valg (v:= ?vy9) rfl Mono.rr (fun ρ W hd=>Mono.guard_val hd (t:=21) (k:=3) (by kernel_rfl) rfl) (fun ρ a W hR hd hf=> ?hy9) ?_
    case hy9=>
     have e0:=Mono.init_get hf (t:=0) (by kernel_rfl)
     clear hd hf
     (go_simp;try with_reducible rfl)
    refine Mono.rgl_valg (v:= ?vy10) rfl Mono.rr (fun ρ W hd=>Mono.guard_val hd (t:=21) (k:=3) (by kernel_rfl) rfl) (fun ρ a W hR hd hf=> ?hy10) ?_
    case hy10=>
     have e9:=Mono.init_get hf (t:=9) (by kernel_rfl)
     clear hd hf
     (go_simp;try with_reducible rfl)
    refine Mono.rgl_valg (v:= ?vy11) rfl Mono.rr (fun ρ W hd=>Mono.guard_val hd (t:=21) (k:=3) (by kernel_rfl) rfl) (fun ρ a W hR hd hf=> ?hy11) ?_
    case hy11=>
     have e28:=Mono.dep_val hd hf (t:=28) (k:=10) (by kernel_rfl) rfl
     clear hd hf
     (go_simp;try with_reducible rfl)
    refine Mono.rgl_valg (v:= ?vy12) rfl Mono.rr (fun ρ W hd=>Mono.guard_val hd (t:=21) (k:=3) (by kernel_rfl) rfl) (fun ρ a W hR hd hf=> ?hy12) ?_
    case hy12=>
     have e27:=Mono.dep_val hd hf (t:=27) (k:=9) (by kernel_rfl) rfl
     have e29:=Mono.dep_val hd hf (t:=29) (k:=11) (by kernel_rfl) rfl
     clear hd hf
     (go_simp;try with_reducible rfl)
    refine Mono.rgl_valg (v:= ?vy13) rfl Mono.rr (fun ρ W hd=>Mono.guard_val hd (t:=21) (k:=3) (by kernel_rfl) rfl) (fun ρ a W hR hd hf=> ?hy13) ?_
    case hy13=>
     have e30:=Mono.dep_val hd hf (t:=30) (k:=12) (by kernel_rfl) rfl
     have hk:=(HA.out.up hR).cell jp b2
     clear hd hf
     (go_simp;try with_reducible rfl)
    refine Mono.rgl_callg (fun x _=>x= .int .i64 (cf (g (jp+1)) (g jp))) rfl Mono.rr (fun _ _ _ h _=>h) (fun ρ W hd=>Mono.guard_val hd (t:=21) (k:=3) (by kernel_rfl) rfl) (fun ρ a W hR hd hf=> ?hy14) ?_
    case hy14=>
     have e22:=Mono.dep_val hd hf (t:=22) (k:=4) (by kernel_rfl) rfl
     have e26:=Mono.dep_val hd hf (t:=26) (k:=8) (by kernel_rfl) rfl
     have e31:=Mono.dep_val hd hf (t:=31) (k:=13) (by kernel_rfl) rfl
     clear hd hf
     refine⟨_,_,by go_simp;first|rfl|exact⟨rfl,rfl⟩,?_⟩
     exact (HC.out W (HG.out.up hR) (g (jp+1)) (g jp)).mono (by rintro e w' ⟨rfl,hb⟩;exact⟨_,rfl,hb,rfl⟩)
    refine Mono.rgl_valg (v:= ?vy15) rfl Mono.rr (fun ρ W hd=>Mono.guard_val hd (t:=21) (k:=3) (by kernel_rfl) rfl) (fun ρ a W hR hd hf=> ?hy15) ?_
    case hy15=>
     have e32:=Mono.dep_val hd hf (t:=32) (k:=14) (by kernel_rfl) rfl
     clear hd hf
     (go_simp;try with_reducible rfl)
    refine Mono.rgl_val (v:= ?vy16) rfl Mono.rr (fun ρ a W hR hd hf=> ?hy16) ?_
    case hy16=>
     have e21:=Mono.dep_val hd hf (t:=21) (k:=3) (by kernel_rfl) rfl
     have e33:=Mono.dep_val hd hf (t:=33) (k:=15) (by kernel_rfl) rfl
     clear hd hf
     (go_simp;try with_reducible rfl)
    refine Mono.rgl_done rfl (fun ρ W hR ht=> ?_)
    obtain⟨dy16,dy15,dy14,dy13,dy12,dy11,dy10,dy9,dy8,dy7,dy6,dy5,dy4,dy3,dy2,dy1,dy0,_⟩:=ht
    simp only[List.length_cons,List.length_nil,Nat.reduceAdd] at dy0 dy1 dy2 dy3 dy4 dy5 dy6 dy7 dy8 dy9 dy10 dy11 dy12 dy13 dy14 dy15 dy16
    simp only[Mono.putAll,Nat.reduceAdd,dy0,dy1,dy2,dy3,dy4,dy5,dy6,dy7,dy8,dy9,dy10,dy11,dy12,dy13,dy14,dy15,dy16,Act.put,List.setIfInBounds_toArray,List.set_cons_zero,List.set_cons_succ]
    clear dy0 dy1 dy2 dy3 dy4 dy5 dy6 dy7 dy8 dy9 dy10 dy11 dy12 dy13 dy14 dy15 dy16
    have HA:=Lib.hid (HA.out.up hR)
    have HG:=Lib.hid (HG.out.up hR)
    clear hR
    cases hd:decide (cf (g (jp+1)) (g jp)<0)
    rotate_left
    ·have hc:=of_decide_eq_true hd
     have HJ2:=Lib.hid (InsJ.step HF.out HO.out HJ.out (by omega) j2 hc)
     have c1:=HA.out.cell (jp+1) b1
     have c2:=HA.out.cell jp b2
     have f1:=HA.out.free (jp+1)
     have f2:=HA.out.free jp
     obtain⟨x1,hx1⟩: ∃z,enc (g (jp+1))= .int .i64 z:=⟨_,rfl⟩
     obtain⟨x2,hx2⟩: ∃z,enc (g jp)= .int .i64 z:=⟨_,rfl⟩
     rw[hx1] at c1
     rw[hx2] at c2
     have HX1:=Lib.hid hx1
     have HX2:=Lib.hid hx2
     clear hx1 hx2 hc hd
     go_upto_region 6 with (fail)
     go_region
     all_goals
      have HA2:Hid (Arr ((W.setCell ⟨blk,jp+1,none⟩ (.int .i64 x2)).setCell ⟨blk,jp,none⟩ (.int .i64 x1)).drew blk n (swp g (jp+1) jp)):=Lib.hid (by
       have h1:=HA.out.swap (jp+1) jp
       rw[HX1.out,HX2.out] at h1
       exact h1.up (Below.refl _ _).drew)
      have HG2:Hid (Gr blk w ((W.setCell ⟨blk,jp+1,none⟩ (.int .i64 x2)).setCell ⟨blk,jp,none⟩ (.int .i64 x1)).drew):=Lib.hid (((HG.out.set _ _).set _ _).up (Below.refl _ _).drew)
      generalize ((W.setCell ⟨blk,jp+1,none⟩ (.int .i64 x2)).setCell ⟨blk,jp,none⟩ (.int .i64 x1)).drew=w4 at*
      clear c1 c2 f1 f2
      go_wp2_with (fail)
      go_roundw
      case rel=>exact⟨jp,_,rfl,by omega,by omega,HJ2,HA2,HG2⟩
      case measure=>simp[intOf]<;>omega
    ·have hc:=of_decide_eq_false hd
     have HS:=Lib.hid HJ.out.sw
     have HT:=Lib.hid (InsJ.done HF.out HO.out HJ.out j2 (.inr ⟨hja,by simpa using hc⟩))
     clear hc hd
     go_wp2_with (fail)
     go_roundw
     case rel=>exact⟨i+1,g,rfl,by omega,.inl (by omega),Lib.hid (by rw[if_pos (show i+1≤b by omega)];exact HS.out),HT,HA,HG⟩
     case measure=>simp[intOf]<;>omega
   ·have t1:decide ((a:Int)<(j:Int))=false:=decide_eq_false (by omega)
    go_upto_region 4 with (fail)
    refine Mono.region_below (by kernel_rfl) (by kernel_rfl) (by kernel_rfl) ?_
    refine Mono.rgl_val (v:= ?vn0) rfl Mono.rr (fun ρ a W hR hd hf=> ?hn0) ?_
    case hn0=>
     have e9:=Mono.init_get hf (t:=9) (by kernel_rfl)
     clear hd hf
     (go_simp;try with_reducible rfl)
    refine Mono.rgl_val (v:= ?vn1) rfl Mono.rr (fun ρ a W hR hd hf=> ?hn1) ?_
    case hn1=>
     have e1:=Mono.init_get hf (t:=1) (by kernel_rfl)
     clear hd hf
     (go_simp;try with_reducible rfl)
    refine Mono.rgl_val (v:= ?vn2) rfl Mono.rr (fun ρ a W hR hd hf=> ?hn2) ?_
    case hn2=>
     have e18:=Mono.dep_val hd hf (t:=18) (k:=0) (by kernel_rfl) rfl
     have e19:=Mono.dep_val hd hf (t:=19) (k:=1) (by kernel_rfl) rfl
     clear hd hf
     (go_simp;try with_reducible rfl)
    refine Mono.rgl_val (v:= ?vn3) rfl Mono.rr (fun ρ a W hR hd hf=> ?hn3) ?_
    case hn3=>
     have e20:=Mono.dep_val hd hf (t:=20) (k:=2) (by kernel_rfl) rfl
     clear hd hf
     (go_simp;try with_reducible rfl)
    refine Mono.rgl_skip rfl (by decide) (fun ρ W hd=>Mono.guard_val hd (t:=21) (k:=3) (by kernel_rfl) rfl) ?_
    refine Mono.rgl_skip rfl (by decide) (fun ρ W hd=>Mono.guard_val hd (t:=21) (k:=3) (by kernel_rfl) rfl) ?_
    refine Mono.rgl_skip rfl (by decide) (fun ρ W hd=>Mono.guard_val hd (t:=21) (k:=3) (by kernel_rfl) rfl) ?_
    refine Mono.rgl_skip rfl (by decide) (fun ρ W hd=>Mono.guard_val hd (t:=21) (k:=3) (by kernel_rfl) rfl) ?_
    refine Mono.rgl_skip rfl (by decide) (fun ρ W hd=>Mono.guard_val hd (t:=21) (k:=3) (by kernel_rfl) rfl) ?_
    refine Mono.rgl_skip rfl (by decide) (fun ρ W hd=>Mono.guard_val hd (t:=21) (k:=3) (by kernel_rfl) rfl) ?_
    refine Mono.rgl_skip rfl (by decide) (fun ρ W hd=>Mono.guard_val hd (t:=21) (k:=3) (by kernel_rfl) rfl) ?_
    refine Mono.rgl_skip rfl (by decide) (fun ρ W hd=>Mono.guard_val hd (t:=21) (k:=3) (by kernel_rfl) rfl) ?_
    refine Mono.rgl_skip rfl (by decide) (fun ρ W hd=>Mono.guard_val hd (t:=21) (k:=3) (by kernel_rfl) rfl) ?_
    refine Mono.rgl_skip rfl (by decide) (fun ρ W hd=>Mono.guard_val hd (t:=21) (k:=3) (by kernel_rfl) rfl) ?_
    refine Mono.rgl_skip rfl (by decide) (fun ρ W hd=>Mono.guard_val hd (t:=21) (k:=3) (by kernel_rfl) rfl) ?_
    refine Mono.rgl_skip rfl (by decide) (fun ρ W hd=>Mono.guard_val hd (t:=21) (k:=3) (by kernel_rfl) rfl) ?_
    refine Mono.rgl_val (v:= ?vn16) rfl Mono.rr (fun ρ a W hR hd hf=> ?hn16) ?_
    case hn16=>
     have e21:=Mono.dep_val hd hf (t:=21) (k:=3) (by kernel_rfl) rfl
     have e33:=Mono.dep_val hd hf (t:=33) (k:=15) (by kernel_rfl) rfl
     clear hd hf
     (go_simp;try with_reducible rfl)
    refine Mono.rgl_done rfl (fun ρ W hR ht=> ?_)
    obtain⟨dn16,dn15,dn14,dn13,dn12,dn11,dn10,dn9,dn8,dn7,dn6,dn5,dn4,dn3,dn2,dn1,dn0,_⟩:=ht
    simp only[List.length_cons,List.length_nil,Nat.reduceAdd] at dn0 dn1 dn2 dn3 dn4 dn5 dn6 dn7 dn8 dn9 dn10 dn11 dn12 dn13 dn14 dn15 dn16
    simp only[Mono.putAll,Nat.reduceAdd,dn0,dn1,dn2,dn3,dn4,dn5,dn6,dn7,dn8,dn9,dn10,dn11,dn12,dn13,dn14,dn15,dn16,Act.put,List.setIfInBounds_toArray,List.set_cons_zero,List.set_cons_succ]
    clear dn0 dn1 dn2 dn3 dn4 dn5 dn6 dn7 dn8 dn9 dn10 dn11 dn12 dn13 dn14 dn15 dn16
    have HA:=Lib.hid (HA.out.up hR)
    have HG:=Lib.hid (HG.out.up hR)
    clear hR
    have HS:=Lib.hid HJ.out.sw
    have HT:=Lib.hid (InsJ.done HF.out HO.out HJ.out j2 (.inl (by omega)))
    go_wp2_with (fail)
    go_roundw
    case rel=>exact⟨i+1,g,rfl,by omega,.inl (by omega),Lib.hid (by rw[if_pos (show i+1≤b by omega)];exact HS.out),HT,HA,HG⟩
    case measure=>simp[intOf]<;>omega
end Go.Proofs.YtmdgeoalamancaaGreatDoor
namespace Go.Proofs.YtmdgeoalamancaaGreatDoor
open Go.RowKit
variable {zz:Nat}
set_option maxHeartbeats 8000000 in
theorem sym_one (blk n cap a m b gc:Nat) (cb:Array Value) (cf:El zz→El zz→Int) (le:El zz→El zz→Prop) (f:Nat→El zz) (w:World) (hA:Arr w blk n f) (hn:n≤1000000) (h1:a<m) (h2:m<b) (hb:b≤n)
  (o:Ord le) (hcf: ∀x y,cf x y<0↔ ¬le y x) (hl:Srt le f a m) (hr:Srt le f m b) (hC:CmpOK gc cb cf blk w) (heg: ∀args W,(callFunc gc args).run Tryz.prog W= .ok (.enter gc args) W) (hone:m=a+1):
  Calls Tryz.prog 217 #[.slice (some ⟨blk,0,none⟩) n cap,.int .i64 (a:Nat),.int .i64 (m:Nat),.int .i64 (b:Nat),.func (.func gc) #[] cb] w (InsOut le f blk n a b w):=by
 have HA:=Lib.hid hA
 have HC:=Lib.hid hC
 have HO:=Lib.hid o
 have HF:=Lib.hid hcf
 have HONE:=Lib.hid hone
 have d0:(((m:Int)-(a:Int))==1)=true:=by simp;omega
 have HLR:=Lib.hid hr
 clear hA hC o hcf hl hr hone
 go_enter Tryz.func217,Tryz.ntmps217
 go_wp2_with (fail)
 go_loopw [10,11] (fun x y wr=> ∃i j:Nat,x= .int .i64 i∧y= .int .i64 j∧m≤i∧i≤j∧j≤b∧Hid (∀k,m≤k→k<i→le (f k) (f a))∧Hid (∀k,j≤k→k<b→le (f a) (f k))∧Hid (Arr wr blk n f)∧Hid (Gr blk w wr)) (fun x y _=>(intOf y-intOf x).toNat)
 case atStart=>exact⟨m,b,rfl,rfl,Nat.le_refl _,by omega,Nat.le_refl _,Lib.hid (fun k k1 k2=>by omega),Lib.hid (fun k k1 k2=>by omega),HA,Lib.hid (Gr.refl _ _)⟩
 case round=>
  clear HA d0
  obtain⟨i,j,rfl,rfl,i1,i2,j1,HLO,HHI,HA,HG⟩:=hrel
  obtain⟨wo,rfl⟩: ∃z:World,z=wr:=⟨_,rfl⟩
  by_cases hlt:i<j
  ·have d1:decide (i<j)=true:=decide_eq_true hlt
   have d2:decide ((i:Int)<(j:Int))=true:=decide_eq_true (by omega)
   obtain⟨h,hh⟩: ∃h,(i+j)/2=h:=⟨_,rfl⟩
   have hh':((i:Int)+(j:Int))/2=(h:Int):=by omega
   have b1:h<n:=by omega
   have b2:a<n:=by omega
   have b3:(h:Int)<(n:Int):=by omega
   have b4:(a:Int)<(n:Int):=by omega
   have h3:i≤h∧h<j:=by omega
   have HH':=Lib.hid hh'
   clear hh hh'
   go_upto_region 5 with (fail)
   rw[HH'.out]
   clear HH'
   refine Mono.region_below (by kernel_rfl) (by kernel_rfl) (by kernel_rfl) ?_
   refine Mono.rgl_val (v:= ?vp0) rfl Mono.rr (fun ρ act W hR hd hf=> ?hp0) ?_
   case hp0=>
    have e4:=Mono.init_get hf (t:=4) (by kernel_rfl)
    clear hd hf
    (go_simp;try with_reducible rfl)
   refine Mono.rgl_val (v:= ?vp1) rfl Mono.rr (fun ρ act W hR hd hf=> ?hp1) ?_
   case hp1=>
    have e0:=Mono.init_get hf (t:=0) (by kernel_rfl)
    clear hd hf
    (go_simp;try with_reducible rfl)
   refine Mono.rgl_val (v:= ?vp2) rfl Mono.rr (fun ρ act W hR hd hf=> ?hp2) ?_
   case hp2=>
    have e12:=Mono.init_get hf (t:=12) (by kernel_rfl)
    clear hd hf
    (go_simp;try with_reducible rfl)
   refine Mono.rgl_val (v:= ?vp3) rfl Mono.rr (fun ρ act W hR hd hf=> ?hp3) ?_
   case hp3=>
    have e41:=Mono.dep_val hd hf (t:=41) (k:=1) (by kernel_rfl) rfl
    have e42:=Mono.dep_val hd hf (t:=42) (k:=2) (by kernel_rfl) rfl
    clear hd hf
    (go_simp;try with_reducible rfl)
   refine Mono.rgl_val (v:= ?vp4) rfl Mono.rr (fun ρ act W hR hd hf=> ?hp4) ?_
   case hp4=>
    have e43:=Mono.dep_val hd hf (t:=43) (k:=3) (by kernel_rfl) rfl
    have hk:=(HA.out.up hR).cell h b1
    clear hd hf
    (go_simp;try with_reducible rfl)
   refine Mono.rgl_val (v:= ?vp5) rfl Mono.rr (fun ρ act W hR hd hf=> ?hp5) ?_
   case hp5=>
    have e0:=Mono.init_get hf (t:=0) (by kernel_rfl)
    clear hd hf
    (go_simp;try with_reducible rfl)
   refine Mono.rgl_val (v:= ?vp6) rfl Mono.rr (fun ρ act W hR hd hf=> ?hp6) ?_
   case hp6=>
    have e1:=Mono.init_get hf (t:=1) (by kernel_rfl)
    clear hd hf
    (go_simp;try with_reducible rfl)
   refine Mono.rgl_val (v:= ?vp7) rfl Mono.rr (fun ρ act W hR hd hf=> ?hp7) ?_
   case hp7=>
    have e45:=Mono.dep_val hd hf (t:=45) (k:=5) (by kernel_rfl) rfl
    have e46:=Mono.dep_val hd hf (t:=46) (k:=6) (by kernel_rfl) rfl
    clear hd hf
    (go_simp;try with_reducible rfl)
   refine Mono.rgl_val (v:= ?vp8) rfl Mono.rr (fun ρ act W hR hd hf=> ?hp8) ?_
   case hp8=>
    have e47:=Mono.dep_val hd hf (t:=47) (k:=7) (by kernel_rfl) rfl
    have hk:=(HA.out.up hR).cell a b2
    clear hd hf
    (go_simp;try with_reducible rfl)
   refine Mono.rgl_call (fun x _=>x= .int .i64 (cf (f h) (f a))) rfl Mono.rr (fun _ _ _ h _=>h) (fun ρ act W hR hd hf=> ?hp9) ?_
   case hp9=>
    have e40:=Mono.dep_val hd hf (t:=40) (k:=0) (by kernel_rfl) rfl
    have e44:=Mono.dep_val hd hf (t:=44) (k:=4) (by kernel_rfl) rfl
    have e48:=Mono.dep_val hd hf (t:=48) (k:=8) (by kernel_rfl) rfl
    clear hd hf
    refine⟨_,_,by go_simp;first|rfl|exact⟨rfl,rfl⟩,?_⟩
    exact (HC.out W (HG.out.up hR) (f h) (f a)).mono (by rintro e w' ⟨rfl,hb⟩;exact⟨_,rfl,hb,rfl⟩)
   refine Mono.rgl_val (v:= ?vp10) rfl Mono.rr (fun ρ act W hR hd hf=> ?hp10) ?_
   case hp10=>
    have e49:=Mono.dep_val hd hf (t:=49) (k:=9) (by kernel_rfl) rfl
    clear hd hf
    (go_simp;try with_reducible rfl)
   refine Mono.rgl_done rfl (fun ρ W hR ht=> ?_)
   obtain⟨dp10,dp9,dp8,dp7,dp6,dp5,dp4,dp3,dp2,dp1,dp0,_⟩:=ht
   simp only[List.length_cons,List.length_nil,Nat.reduceAdd] at dp0 dp1 dp2 dp3 dp4 dp5 dp6 dp7 dp8 dp9 dp10
   simp only[Mono.putAll,Nat.reduceAdd,dp0,dp1,dp2,dp3,dp4,dp5,dp6,dp7,dp8,dp9,dp10,Act.put,List.setIfInBounds_toArray,List.set_cons_zero,List.set_cons_succ]
   clear dp0 dp1 dp2 dp3 dp4 dp5 dp6 dp7 dp8 dp9 dp10
   have HA:=Lib.hid (HA.out.up hR)
   have HG:=Lib.hid (HG.out.up hR)
   clear hR
   have q1:IntKind.i64.wrap ((h:Int)+1)=((h+1:Nat):Int):=by rw[IntWalk.i64_in _ (by omega)];omega
   cases hd:decide (cf (f h) (f a)<0)
   ·have HHI2:Hid (∀k,h≤k→k<b→le (f a) (f k)):=Lib.hid (fun k k1 k2=>HO.out.trans (Classical.byContradiction fun q=>of_decide_eq_false hd ((HF.out _ _).2 q)) (HLR.out.le HO.out (by omega) k1 k2))
    clear hd
    go_wp2_with (fail)
    go_roundw
    case rel=>exact⟨i,h,rfl,rfl,i1,by omega,by omega,HLO,HHI2,HA,HG⟩
    case measure=>simp[intOf]<;>omega
   ·have HLO2:Hid (∀k,m≤k→k<h+1→le (f k) (f a)):=Lib.hid (fun k k1 k2=>HO.out.trans (HLR.out.le HO.out k1 (show k≤h by omega) (by omega)) (HO.out.not ((HF.out _ _).1 (of_decide_eq_true hd))))
    clear hd
    go_wp2_with (fail)
    go_roundw
    case rel=>exact⟨h+1,j,rfl,rfl,by omega,by omega,by omega,HLO2,HHI,HA,HG⟩
    case measure=>simp[intOf]<;>omega
  ·have d1:decide (i<j)=false:=decide_eq_false hlt
   have d2:decide ((i:Int)<(j:Int))=false:=decide_eq_false (by omega)
   obtain rfl:i=j:=by omega
   have HT:Hid (Srt le (mvU f a (i-1)) a b):=Lib.hid (mvU_srt HO.out (by rw[←HONE.out];exact HLR.out) (by have:=HONE.out;omega) j1 (fun k k1 k2=>HLO.out k (by have:=HONE.out;omega) k2) HHI.out)
   clear HLO HHI hlt
   go_wp2_with (fail)
   go_loopw [13] (fun x wr=> ∃k:Nat,x= .int .i64 k∧a≤k∧k≤i-1∧Hid (Sw a b f (mvU f a k))∧Hid (Arr wr blk n (mvU f a k))∧Hid (Gr blk w wr)) (fun x _=>i-(intOf x).toNat)
   case atStart=>exact⟨a,rfl,Nat.le_refl _,by omega,Lib.hid (by rw[mvU_start];exact .refl),Lib.hid (by rw[mvU_start];exact HA.out),HG⟩
   case round=>
    clear HA HG
    obtain⟨k,rfl,k1,k2,HSW,HA,HG⟩:=hrel
    obtain⟨w2,rfl⟩: ∃z:World,z=wr:=⟨_,rfl⟩
    by_cases hk:k<i-1
    ·have d3:decide ((k:Int)<(i:Int)-1)=true:=decide_eq_true (by omega)
     have b1:k<n:=by omega
     have b2:k+1<n:=by omega
     have b3:(k:Int)<(n:Int):=by omega
     have b4:(k:Int)+1<(n:Int):=by omega
     have e0:((k:Int)+1).toNat=k+1:=by omega
     have p0:(0:Int)≤(k:Int)+1:=by omega
     have HSW2:Hid (Sw a b f (mvU f a (k+1))):=Lib.hid (by rw[←mvU_step f a k k1];exact HSW.out.step _ _ k1 (by omega) (by omega) (by omega))
     have c1:=HA.out.cell k b1
     have c2:=HA.out.cell (k+1) b2
     have f1:=HA.out.free k
     have f2:=HA.out.free (k+1)
     obtain⟨x1,hx1⟩: ∃z,enc (mvU f a k k)= .int .i64 z:=⟨_,rfl⟩
     obtain⟨x2,hx2⟩: ∃z,enc (mvU f a k (k+1))= .int .i64 z:=⟨_,rfl⟩
     rw[hx1] at c1
     rw[hx2] at c2
     have HX1:=Lib.hid hx1
     have HX2:=Lib.hid hx2
     have HSTEP:=Lib.hid (mvU_step f a k k1)
     clear hx1 hx2
     go_upto_region 11 with (fail)
     go_region
     all_goals
      have HA2:Hid (Arr ((w2.setCell ⟨blk,k,none⟩ (.int .i64 x2)).setCell ⟨blk,(k+1),none⟩ (.int .i64 x1)).drew blk n (mvU f a (k+1))):=Lib.hid (by
       have h1:=HA.out.swap k (k+1)
       rw[HX1.out,HX2.out,HSTEP.out] at h1
       exact h1.up (Below.refl _ _).drew)
      have HG2:Hid (Gr blk w ((w2.setCell ⟨blk,k,none⟩ (.int .i64 x2)).setCell ⟨blk,(k+1),none⟩ (.int .i64 x1)).drew):=Lib.hid (((HG.out.set _ _).set _ _).up (Below.refl _ _).drew)
      generalize ((w2.setCell ⟨blk,k,none⟩ (.int .i64 x2)).setCell ⟨blk,(k+1),none⟩ (.int .i64 x1)).drew=w4 at*
      clear c1 c2 f1 f2
      go_wp2_with (fail)
      go_roundw
      case rel=>exact⟨k+1,rfl,by omega,by omega,HSW2,HA2,HG2⟩
      case measure=>simp[intOf]<;>omega
    ·have d3:decide ((k:Int)<(i:Int)-1)=false:=decide_eq_false (by omega)
     obtain rfl:k=i-1:=by omega
     clear hk
     go_wp2_with (fail)
     go_end0
     exact InsOut.mk HSW.out HT.out HA.out HG.out
end Go.Proofs.YtmdgeoalamancaaGreatDoor
namespace Go.Proofs.YtmdgeoalamancaaGreatDoor
open Go.RowKit
variable {zz:Nat}
set_option maxHeartbeats 8000000 in
theorem sym_last (blk n cap a m b gc:Nat) (cb:Array Value) (cf:El zz→El zz→Int) (le:El zz→El zz→Prop) (f:Nat→El zz) (w:World) (hA:Arr w blk n f) (hn:n≤1000000) (h1:a<m) (h2:m<b) (hb:b≤n)
  (o:Ord le) (hcf: ∀x y,cf x y<0↔ ¬le y x) (hl:Srt le f a m) (hr:Srt le f m b) (hC:CmpOK gc cb cf blk w) (heg: ∀args W,(callFunc gc args).run Tryz.prog W= .ok (.enter gc args) W) (hone:b=m+1) (hnot:m≠a+1):
  Calls Tryz.prog 217 #[.slice (some ⟨blk,0,none⟩) n cap,.int .i64 (a:Nat),.int .i64 (m:Nat),.int .i64 (b:Nat),.func (.func gc) #[] cb] w (InsOut le f blk n a b w):=by
 have HA:=Lib.hid hA
 have HC:=Lib.hid hC
 have HO:=Lib.hid o
 have HF:=Lib.hid hcf
 have HONE:=Lib.hid hone
 have d0:(((m:Int)-(a:Int))==1)=false:=by simp;omega
 have d01:(((b:Int)-(m:Int))==1)=true:=by simp;omega
 have HLR:=Lib.hid hl
 clear hA hC o hcf hl hr hone
 go_enter Tryz.func217,Tryz.ntmps217
 go_wp2_with (fail)
 go_loopw [14,15] (fun x y wr=> ∃i j:Nat,x= .int .i64 i∧y= .int .i64 j∧a≤i∧i≤j∧j≤m∧Hid (∀k,a≤k→k<i→le (f k) (f m))∧Hid (∀k,j≤k→k<m→le (f m) (f k))∧Hid (Arr wr blk n f)∧Hid (Gr blk w wr)) (fun x y _=>(intOf y-intOf x).toNat)
 case atStart=>exact⟨a,m,rfl,rfl,Nat.le_refl _,by omega,Nat.le_refl _,Lib.hid (fun k k1 k2=>by omega),Lib.hid (fun k k1 k2=>by omega),HA,Lib.hid (Gr.refl _ _)⟩
 case round=>
  clear HA d0 d01
  obtain⟨i,j,rfl,rfl,i1,i2,j1,HLO,HHI,HA,HG⟩:=hrel
  obtain⟨wo,rfl⟩: ∃z:World,z=wr:=⟨_,rfl⟩
  by_cases hlt:i<j
  ·have d1:decide (i<j)=true:=decide_eq_true hlt
   have d2:decide ((i:Int)<(j:Int))=true:=decide_eq_true (by omega)
   obtain⟨h,hh⟩: ∃h,(i+j)/2=h:=⟨_,rfl⟩
   have hh':((i:Int)+(j:Int))/2=(h:Int):=by omega
   have b1:m<n:=by omega
   have b2:h<n:=by omega
   have b3:(h:Int)<(n:Int):=by omega
   have b4:(m:Int)<(n:Int):=by omega
   have h3:i≤h∧h<j:=by omega
   have HH':=Lib.hid hh'
   clear hh hh'
   go_upto_region 17 with (fail)
   rw[HH'.out]
   clear HH'
   refine Mono.region_below (by kernel_rfl) (by kernel_rfl) (by kernel_rfl) ?_
   refine Mono.rgl_val (v:= ?vp0) rfl Mono.rr (fun ρ act W hR hd hf=> ?hp0) ?_
   case hp0=>
    have e4:=Mono.init_get hf (t:=4) (by kernel_rfl)
    clear hd hf
    (go_simp;try with_reducible rfl)
   refine Mono.rgl_val (v:= ?vp1) rfl Mono.rr (fun ρ act W hR hd hf=> ?hp1) ?_
   case hp1=>
    have e0:=Mono.init_get hf (t:=0) (by kernel_rfl)
    clear hd hf
    (go_simp;try with_reducible rfl)
   refine Mono.rgl_val (v:= ?vp2) rfl Mono.rr (fun ρ act W hR hd hf=> ?hp2) ?_
   case hp2=>
    have e2:=Mono.init_get hf (t:=2) (by kernel_rfl)
    clear hd hf
    (go_simp;try with_reducible rfl)
   refine Mono.rgl_val (v:= ?vp3) rfl Mono.rr (fun ρ act W hR hd hf=> ?hp3) ?_
   case hp3=>
    have e93:=Mono.dep_val hd hf (t:=93) (k:=1) (by kernel_rfl) rfl
    have e94:=Mono.dep_val hd hf (t:=94) (k:=2) (by kernel_rfl) rfl
    clear hd hf
    (go_simp;try with_reducible rfl)
   refine Mono.rgl_val (v:= ?vp4) rfl Mono.rr (fun ρ act W hR hd hf=> ?hp4) ?_
   case hp4=>
    have e95:=Mono.dep_val hd hf (t:=95) (k:=3) (by kernel_rfl) rfl
    have hk:=(HA.out.up hR).cell m b1
    clear hd hf
    (go_simp;try with_reducible rfl)
   refine Mono.rgl_val (v:= ?vp5) rfl Mono.rr (fun ρ act W hR hd hf=> ?hp5) ?_
   case hp5=>
    have e0:=Mono.init_get hf (t:=0) (by kernel_rfl)
    clear hd hf
    (go_simp;try with_reducible rfl)
   refine Mono.rgl_val (v:= ?vp6) rfl Mono.rr (fun ρ act W hR hd hf=> ?hp6) ?_
   case hp6=>
    have e16:=Mono.init_get hf (t:=16) (by kernel_rfl)
    clear hd hf
    (go_simp;try with_reducible rfl)
   refine Mono.rgl_val (v:= ?vp7) rfl Mono.rr (fun ρ act W hR hd hf=> ?hp7) ?_
   case hp7=>
    have e97:=Mono.dep_val hd hf (t:=97) (k:=5) (by kernel_rfl) rfl
    have e98:=Mono.dep_val hd hf (t:=98) (k:=6) (by kernel_rfl) rfl
    clear hd hf
    (go_simp;try with_reducible rfl)
   refine Mono.rgl_val (v:= ?vp8) rfl Mono.rr (fun ρ act W hR hd hf=> ?hp8) ?_
   case hp8=>
    have e99:=Mono.dep_val hd hf (t:=99) (k:=7) (by kernel_rfl) rfl
    have hk:=(HA.out.up hR).cell h b2
    clear hd hf
    (go_simp;try with_reducible rfl)
   refine Mono.rgl_call (fun x _=>x= .int .i64 (cf (f m) (f h))) rfl Mono.rr (fun _ _ _ h _=>h) (fun ρ act W hR hd hf=> ?hp9) ?_
   case hp9=>
    have e92:=Mono.dep_val hd hf (t:=92) (k:=0) (by kernel_rfl) rfl
    have e96:=Mono.dep_val hd hf (t:=96) (k:=4) (by kernel_rfl) rfl
    have e100:=Mono.dep_val hd hf (t:=100) (k:=8) (by kernel_rfl) rfl
    clear hd hf
    refine⟨_,_,by go_simp;first|rfl|exact⟨rfl,rfl⟩,?_⟩
    exact (HC.out W (HG.out.up hR) (f m) (f h)).mono (by rintro e w' ⟨rfl,hb⟩;exact⟨_,rfl,hb,rfl⟩)
   refine Mono.rgl_val (v:= ?vp10) rfl Mono.rr (fun ρ act W hR hd hf=> ?hp10) ?_
   case hp10=>
    have e101:=Mono.dep_val hd hf (t:=101) (k:=9) (by kernel_rfl) rfl
    clear hd hf
    (go_simp;try with_reducible rfl)
   refine Mono.rgl_val (v:= ?vp11) rfl Mono.rr (fun ρ act W hR hd hf=> ?hp11) ?_
   case hp11=>
    have e102:=Mono.dep_val hd hf (t:=102) (k:=10) (by kernel_rfl) rfl
    clear hd hf
    (go_simp;try with_reducible rfl)
   refine Mono.rgl_done rfl (fun ρ W hR ht=> ?_)
   obtain⟨dp11,dp10,dp9,dp8,dp7,dp6,dp5,dp4,dp3,dp2,dp1,dp0,_⟩:=ht
   simp only[List.length_cons,List.length_nil,Nat.reduceAdd] at dp0 dp1 dp2 dp3 dp4 dp5 dp6 dp7 dp8 dp9 dp10 dp11
   simp only[Mono.putAll,Nat.reduceAdd,dp0,dp1,dp2,dp3,dp4,dp5,dp6,dp7,dp8,dp9,dp10,dp11,Act.put,List.setIfInBounds_toArray,List.set_cons_zero,List.set_cons_succ]
   clear dp0 dp1 dp2 dp3 dp4 dp5 dp6 dp7 dp8 dp9 dp10 dp11
   have HA:=Lib.hid (HA.out.up hR)
   have HG:=Lib.hid (HG.out.up hR)
   clear hR
   have q1:IntKind.i64.wrap ((h:Int)+1)=((h+1:Nat):Int):=by rw[IntWalk.i64_in _ (by omega)];omega
   cases hd:decide (cf (f m) (f h)<0)
   ·have HLO2:Hid (∀k,a≤k→k<h+1→le (f k) (f m)):=Lib.hid (fun k k1 k2=>HO.out.trans (HLR.out.le HO.out k1 (show k≤h by omega) (by omega)) (Classical.byContradiction fun q=>of_decide_eq_false hd ((HF.out _ _).2 q)))
    clear hd
    go_wp2_with (fail)
    go_roundw
    case rel=>exact⟨h+1,j,rfl,rfl,by omega,by omega,by omega,HLO2,HHI,HA,HG⟩
    case measure=>simp[intOf]<;>omega
   ·have HHI2:Hid (∀k,h≤k→k<m→le (f m) (f k)):=Lib.hid (fun k k1 k2=>HO.out.trans (HO.out.not ((HF.out _ _).1 (of_decide_eq_true hd))) (HLR.out.le HO.out (by omega) k1 k2))
    clear hd
    go_wp2_with (fail)
    go_roundw
    case rel=>exact⟨i,h,rfl,rfl,i1,by omega,by omega,HLO,HHI2,HA,HG⟩
    case measure=>simp[intOf]<;>omega
  ·have d1:decide (i<j)=false:=decide_eq_false hlt
   have d2:decide ((i:Int)<(j:Int))=false:=decide_eq_false (by omega)
   obtain rfl:i=j:=by omega
   have HT:Hid (Srt le (mvD f m i) a b):=Lib.hid (by rw[HONE.out];exact mvD_srt HLR.out i1 j1 HLO.out HHI.out)
   clear HLO HHI hlt
   go_wp2_with (fail)
   go_loopw [17] (fun x wr=> ∃k:Nat,x= .int .i64 k∧i≤k∧k≤m∧Hid (Sw a b f (mvD f m k))∧Hid (Arr wr blk n (mvD f m k))∧Hid (Gr blk w wr)) (fun x _=>(intOf x).toNat)
   case atStart=>exact⟨m,rfl,j1,Nat.le_refl _,Lib.hid (by rw[mvD_start];exact .refl),Lib.hid (by rw[mvD_start];exact HA.out),HG⟩
   case round=>
    clear HA HG
    obtain⟨k,rfl,k1,k2,HSW,HA,HG⟩:=hrel
    obtain⟨w2,rfl⟩: ∃z:World,z=wr:=⟨_,rfl⟩
    by_cases hk:i<k
    ·obtain⟨kp,rfl⟩: ∃kp,k=kp+1:=⟨k-1,by omega⟩
     have d3:decide ((i:Int)<(kp:Int)+1)=true:=decide_eq_true (by omega)
     have b1:kp+1<n:=by omega
     have b2:kp<n:=by omega
     have b3:(kp:Int)<(n:Int):=by omega
     have b4:(kp:Int)+1<(n:Int):=by omega
     have e0:((kp:Int)+1).toNat=kp+1:=by omega
     have p0:(0:Int)≤(kp:Int)+1:=by omega
     have q2:IntKind.i64.wrap ((kp:Int)+1-1)=(kp:Int):=by rw[IntWalk.i64_in _ (by omega)];omega
     have q3:IntKind.i64.wrap (kp:Int)=(kp:Int):=IntWalk.i64_in _ (by omega)
     have HSW2:Hid (Sw a b f (mvD f m kp)):=Lib.hid (by rw[←mvD_step f m kp k2];exact HSW.out.step _ _ (by omega) (by omega) (by omega) (by omega))
     have c1:=HA.out.cell (kp+1) b1
     have c2:=HA.out.cell kp b2
     have f1:=HA.out.free (kp+1)
     have f2:=HA.out.free kp
     obtain⟨x1,hx1⟩: ∃z,enc (mvD f m (kp+1) (kp+1))= .int .i64 z:=⟨_,rfl⟩
     obtain⟨x2,hx2⟩: ∃z,enc (mvD f m (kp+1) kp)= .int .i64 z:=⟨_,rfl⟩
     rw[hx1] at c1
     rw[hx2] at c2
     have HX1:=Lib.hid hx1
     have HX2:=Lib.hid hx2
     have HSTEP:=Lib.hid (mvD_step f m kp k2)
     clear hx1 hx2
     go_upto_region 23 with (fail)
     go_region
     all_goals
      have HA2:Hid (Arr ((w2.setCell ⟨blk,(kp+1),none⟩ (.int .i64 x2)).setCell ⟨blk,kp,none⟩ (.int .i64 x1)).drew blk n (mvD f m kp)):=Lib.hid (by
       have h1:=HA.out.swap (kp+1) kp
       rw[HX1.out,HX2.out,HSTEP.out] at h1
       exact h1.up (Below.refl _ _).drew)
      have HG2:Hid (Gr blk w ((w2.setCell ⟨blk,(kp+1),none⟩ (.int .i64 x2)).setCell ⟨blk,kp,none⟩ (.int .i64 x1)).drew):=Lib.hid (((HG.out.set _ _).set _ _).up (Below.refl _ _).drew)
      generalize ((w2.setCell ⟨blk,(kp+1),none⟩ (.int .i64 x2)).setCell ⟨blk,kp,none⟩ (.int .i64 x1)).drew=w4 at*
      clear c1 c2 f1 f2
      go_wp2_with (fail)
      go_roundw
      case rel=>exact⟨kp,rfl,by omega,by omega,HSW2,HA2,HG2⟩
      case measure=>simp[intOf]<;>omega
    ·have d3:decide ((i:Int)<(k:Int))=false:=decide_eq_false (by omega)
     obtain rfl:i=k:=by omega
     clear hk
     go_wp2_with (fail)
     go_end0
     exact InsOut.mk HSW.out HT.out HA.out HG.out
end Go.Proofs.YtmdgeoalamancaaGreatDoor
