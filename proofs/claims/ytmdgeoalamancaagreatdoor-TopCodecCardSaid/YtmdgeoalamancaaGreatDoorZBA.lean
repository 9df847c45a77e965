/- deflate: the compressor in memory; New, waiting, Take. deflate: emit. Pieces of a list of tokens. Parts in memory. -/
import Derived.Test.YtmdgeoalamancaaGreatDoorZAZ
import Derived.Test.YtmdgeoalamancaaGreatDoorZAK
import Derived.Great.FillDense
set_option maxRecDepth 100000
set_option linter.unusedVariables false
set_option linter.unusedSimpArgs false
namespace Go.Proofs.YtmdgeoalamancaaGreatDoor
open Go.RowKit
open Bt Can Mc Pk
def ccs (lv:Nat) (v:Value) (fr wb:Nat) (inn b0 b1 b2:Int) (en:Bool):List Value:=[.int .i64 (lv:Nat),v,.int .i64 (fr:Nat),.pointer (some ⟨wb,0,none⟩),.int .i64 inn,.int .i64 b0,.int .i64 b1,.int .i64 b2,.bool en]
structure Cmq (w:World) (cb wb lv:Nat) (G:List Nat) (v:Value) (D:List Nat) (fr:Nat) (S:List Bool) (inn b0 b1 b2:Int) (en:Bool):Prop where
 own:Own w cb (ccs lv v fr wb inn b0 b1 b2 en)
 wr:Wr G w wb S
 dat:Row 0 5 1 w v D.length (bC D)
 sep:Sep [[cb],G,obk v] w.heap.size
def Cm (F:List Nat) (w:World) (cb lv:Nat) (D:List Nat) (fr:Nat) (S:List Bool) (en:Bool):Prop:=
 ∃wb G v inn b0 b1 b2,F=cb::(G++obk v)∧Cmq w cb wb lv G v D fr S inn b0 b1 b2 en
section
variable {w w':World} {cb wb lv fq:Nat} {G D:List Nat} {v:Value} {S:List Bool} {inn b0 b1 b2:Int} {en:Bool}
theorem Cmq.lt (h:Cmq w cb wb lv G v D fq S inn b0 b1 b2 en):cb<w.heap.size:=h.sep.1 0 cb (by simp)
theorem Cmq.fr {H:List Nat} (h:Cmq w cb wb lv G v D fq S inn b0 b1 b2 en) (hf:Fr H w w') (hd: ∀k∈cb::(G++obk v),k ∉ H):Cmq w' cb wb lv G v D fq S inn b0 b1 b2 en:=
 ⟨h.own.fr hf h.lt (hd cb (by simp)),h.wr.fr hf (fun k hk=>hd k (by simp[hk])),h.dat.fr hf (fun k hk=>hd k (by simp[hk])),h.sep.up hf.size⟩
theorem Cmq.below (h:Cmq w cb wb lv G v D fq S inn b0 b1 b2 en) (hb:Below w.heap.size w w'):Cmq w' cb wb lv G v D fq S inn b0 b1 b2 en:=h.fr (Fr.of_below (F:=[]) hb) (fun _ _ h=>by cases h)
theorem Cmq.cells {fr':Nat} {inn' b0' b1' b2':Int} {en':Bool} (h:Cmq w cb wb lv G v D fq S inn b0 b1 b2 en) (hf:Fr [cb] w w') (hO:Own w' cb (ccs lv v fr' wb inn' b0' b1' b2' en')):Cmq w' cb wb lv G v D fr' S inn' b0' b1' b2' en':=by
 have hd: ∀i k,i≠0→k∈[[cb],G,obk v].getD i []→k ∉ [cb]:=fun i k h0 hk hg=>by
  rw[List.mem_singleton.1 hg] at hk
  exact h.sep.2 i 0 cb h0 hk (by simp)
 exact⟨hO,h.wr.fr hf (fun k hk=>hd 1 k (by decide) hk),h.dat.fr hf (fun k hk=>hd 2 k (by decide) hk),h.sep.up hf.size⟩
theorem Cmq.write {G':List Nat} {S':List Bool} (h:Cmq w cb wb lv G v D fq S inn b0 b1 b2 en) (hw:Wr G' w' wb S') (hf:Fr G w w') (hn:New G G' w.heap.size):Cmq w' cb wb lv G' v D fq S' inn b0 b1 b2 en:=
 ⟨h.own.fr hf h.lt (h.sep.2 0 1 cb (by decide) (by simp)),hw,h.dat.fr hf (fun k hk=>h.sep.2 2 1 k (by decide) hk),h.sep.set hf.size 1 G' (fun k hk=>⟨(hw.lt k hk).2,hn k hk⟩)⟩
theorem Cmq.kind (h:Cmq w cb wb lv G v D fq S inn b0 b1 b2 en) {k:Nat} (hk:k≤2) (y:Int): ∃c0 c1 c2,Cmq (w.setCell ⟨cb,5+k,none⟩ (.int .i64 y)) cb wb lv G v D fq S inn c0 c1 c2 en:=by
 obtain rfl|rfl|rfl:k=0∨k=1∨k=2:=by omega
 ·exact⟨y,b1,b2,h.cells ((Fr.refl _ _).setCell (p:=⟨cb,5,none⟩) (.inl (by simp)) _) (h.own.set 5 _ (by simp[ccs]))⟩
 ·exact⟨b0,y,b2,h.cells ((Fr.refl _ _).setCell (p:=⟨cb,6,none⟩) (.inl (by simp)) _) (h.own.set 6 _ (by simp[ccs]))⟩
 ·exact⟨b0,b1,y,h.cells ((Fr.refl _ _).setCell (p:=⟨cb,7,none⟩) (.inl (by simp)) _) (h.own.set 7 _ (by simp[ccs]))⟩
theorem Cmq.cm (h:Cmq w cb wb lv G v D fq S inn b0 b1 b2 en):Cm (cb::(G++obk v)) w cb lv D fq S en:=⟨wb,G,v,inn,b0,b1,b2,rfl,h⟩
end
theorem Cm.fr {w w':World} {F H:List Nat} {cb lv fr:Nat} {D:List Nat} {S:List Bool} {en:Bool} (h:Cm F w cb lv D fr S en) (hf:Fr H w w') (hd: ∀k∈F,k ∉ H):Cm F w' cb lv D fr S en:=by
 obtain⟨wb,G,v,inn,b0,b1,b2,rfl,h⟩:=h
 exact⟨wb,G,v,inn,b0,b1,b2,rfl,h.fr hf hd⟩
theorem Cm.lt {w:World} {F:List Nat} {cb lv fr:Nat} {D:List Nat} {S:List Bool} {en:Bool} (h:Cm F w cb lv D fr S en): ∀k∈F,k<w.heap.size:=by
 obtain⟨wb,G,v,inn,b0,b1,b2,rfl,h⟩:=h
 intro k hk
 rcases List.mem_cons.1 hk with rfl|hk
 ·exact h.lt
 rcases List.mem_append.1 hk with hk|hk
 ·exact h.sep.1 1 k hk
 ·exact h.sep.1 2 k hk
set_option maxHeartbeats 1000000 in
theorem newc_any (lv:Nat) (w:World) (hlv:lv≤9):Calls Tryz.prog 5 #[.int .i64 (lv:Nat)] w fun e w'=> ∃cb F,e= .returned (.tuple #[.pointer (some ⟨cb,0,none⟩),.int .i64 0])∧Cm F w' cb lv [] 0 [] false∧(∀k∈F,w.heap.size≤k)∧Below w.heap.size w w':=by
 have HN:=Lib.hid (newW_any w)
 have d1:decide (lv<0)=false:=by simp
 have d2:decide ((lv:Int)<0)=false:=decide_eq_false (by omega)
 have d3:decide (9<lv)=false:=decide_eq_false (by omega)
 have d4:decide ((9:Int)<(lv:Int))=false:=decide_eq_false (by omega)
 go_enter Tryz.func5,Tryz.ntmps5
 go_wp2_with (fail)
 refine HN.out.mono ?_
 rintro e w1 ⟨wb,rfl,hwb,hw1,hb1⟩
 have HW1:=Lib.hid hw1
 have HB1:=Lib.hid hb1
 clear hw1 hb1 HN
 go_wp2_with (fail)
 go_ret2
 have hba:Below w1.heap.size w1 (w1.alloc (.cells (ccs lv (.slice none 0 0) 0 wb 0 0 0 0 false).toArray 61)):=(Below.refl _ _).alloc (Nat.le_refl _) _
 refine⟨w1.heap.size,_,rfl,Cmq.cm (G:=[wb]) (v:= .slice none 0 0) (inn:=0) (b0:=0) (b1:=0) (b2:=0) ⟨Own.new_at w1 _ _ _ rfl,HW1.out.fr (Fr.of_below (F:=[]) hba) (fun _ _ h=>by cases h),Row.nil,?_⟩,?_,HB1.out.trans (hba.mono HB1.out.size)⟩
 ·have hlt:=(HW1.out.lt wb (by simp)).2
  refine⟨fun i k hk=> ?_,fun i j k hij hk hk2=> ?_⟩
  ·rcases i with _|_|_|i<;>simp[obk,Value.ownBlock] at hk
   ·subst hk;simp
   ·subst hk;simp;omega
  ·rcases i with _|_|_|i<;>rcases j with _|_|_|j<;>simp[obk,Value.ownBlock] at hk hk2 hij<;>omega
 ·intro k hk
  simp[obk,Value.ownBlock] at hk
  rcases hk with rfl|rfl
  ·exact HB1.out.size
  ·exact hwb
set_option maxHeartbeats 1000000 in
theorem waiting_any {w:World} {cb wb lv fr:Nat} {G D:List Nat} {v:Value} {S:List Bool} {inn b0 b1 b2:Int} {en:Bool} (h:Cmq w cb wb lv G v D fr S inn b0 b1 b2 en) (hfr:fr≤D.length) (hl:D.length≤30000):Calls Tryz.prog 25 #[.pointer (some ⟨cb,0,none⟩)] w fun e w'=>e= .returned (.int .i64 ((D.length-fr:Nat):Int))∧ ∃n,w'=w.drewN n:=by
 have k1:=h.own.1 1 _ rfl
 have k2:=h.own.1 2 _ rfl
 obtain⟨a,cap,rfl,_⟩:=h.dat.form
 obtain⟨N,hN⟩: ∃z,D.length=z:=⟨_,rfl⟩
 rw[hN] at hfr hl k1 ⊢
 have q1:IntKind.i64.wrap ((N:Int)-(fr:Int))=((N-fr:Nat):Int):=by rw[IntWalk.i64_in _ (by omega)];omega
 clear h hN
 go_enter Tryz.func25,Tryz.ntmps25
 go_upto_region 1 with (fail)
 go_quiet (fail)
 go_wp2_with (fail)
 go_ret
 exact⟨by rfl,_,rfl⟩
set_option maxHeartbeats 1000000 in
theorem ctake_any {F:List Nat} {w:World} {cb lv fr:Nat} {D:List Nat} {S:List Bool} {en:Bool} (h:Cm F w cb lv D fr S en):Calls Tryz.prog 10 #[.pointer (some ⟨cb,0,none⟩)] w fun e w'=> ∃v l R F',e= .returned v∧S=byts l++R∧R.length<8∧(∀x∈l,x<256)∧Row 0 5 1 w' v l.length (bC l)∧Cm F' w' cb lv D fr R en∧(∀k∈obk v,k ∉ F'∧k∈F)∧(∀k∈F',k∈F)∧Fr F w w':=by
 obtain⟨wb,G,v,inn,b0,b1,b2,rfl,h⟩:=h
 have k3:=h.own.1 3 _ rfl
 have HT:=Lib.hid (take_any G wb S w h.wr)
 have HM:=Lib.hid h
 clear h
 go_enter Tryz.func10,Tryz.ntmps10
 go_wp2_with (fail)
 refine HT.out.mono ?_
 rintro e w1 ⟨va,out,part,n,rfl,hS,hn,hb,hr,hw,hf,hG⟩
 have HX:=Lib.hid (And.intro hS (And.intro hn (And.intro hb (And.intro hr (And.intro hw (And.intro hf hG))))))
 clear hS hn hb hr hw hf hG HT k3
 go_wp2_with (fail)
 go_ret
 obtain⟨hS,hn,hb,hr,hw,hf,hG⟩:=HX.out
 have hfG:Fr G w w1:=hf.weak (fun x hx _=>by rw[hG,List.mem_singleton.1 hx];simp)
 have hm:=HM.out.write hw hfG (fun k hk=> .inl (by rw[hG,List.mem_singleton.1 hk];simp))
 have hsep:=HM.out.sep
 refine⟨va,out,lsb part n,_,rfl,hS,by rw[lsb_len];exact hn,hb,hr.mono (Nat.zero_le _),hm.cm,fun k hk=> ?_,fun k hk=> ?_,hfG.weak (fun x hx _=>by simp[hx])⟩
 ·have hkG:k∈G:=by rw[hG];simp[hk]
  refine⟨fun hm=> ?_,by simp[hkG]⟩
  rcases List.mem_cons.1 hm with rfl|hm
  ·exact hsep.2 0 1 k (by decide) (by simp) hkG
  rcases List.mem_append.1 hm with hm|hm
  ·have:=(hr.lt k (mem_obk.1 hk)).1
   rw[List.mem_singleton.1 hm] at this
   omega
  ·exact hsep.2 1 2 k (by decide) hkG hm
 ·rcases List.mem_cons.1 hk with rfl|hk
  ·simp
  rcases List.mem_append.1 hk with hk|hk
  ·rw[List.mem_singleton.1 hk,hG];simp
  ·simp[hk]
end Go.Proofs.YtmdgeoalamancaaGreatDoor
namespace Go.Proofs.YtmdgeoalamancaaGreatDoor
open Go.RowKit
open Bt Can Mc Pk
section
variable {size n cap:Nat} {a:Option Addr}
variable (t:TypeId) (ht:Tryz.prog.underlying t=some (.slice (Tryz.prog.elem t))) (he: ∀W,(sizeOf (Tryz.prog.elem t)).run Tryz.prog W= .ok size W)
include ht he
theorem subs_lh (hc:n≤cap) {lo hi:Nat} (h1:lo≤hi) (h2:hi≤n): ∃va vc,(∀W,(Instr.slice t (.slice a n cap) (some (.int .i64 (lo:Nat))) (some (.int .i64 (hi:Nat))) none).run Tryz.prog W= .ok (.slice va (hi-lo) vc) W)∧ ∀W B cs,Sl W B size (.slice a n cap) n cs→Sl W B size (.slice va (hi-lo) vc) (hi-lo) ((cs.drop (lo*size)).take ((hi-lo)*size)):=by
 refine⟨_,_,fun W=> ?_,fun W B cs h=>sl_sub h h1 h2⟩
 rw[run_slice_lh W t a n cap ht .i64 .i64 _ _ (by omega) (by omega) (by omega),he]
 simp only[Result.andThen,sliced,Int.toNat_natCast]
theorem subs_l (hc:n≤cap) {lo:Nat} (h1:lo≤n): ∃va vc,(∀W,(Instr.slice t (.slice a n cap) (some (.int .i64 (lo:Nat))) none none).run Tryz.prog W= .ok (.slice va (n-lo) vc) W)∧ ∀W B cs,Sl W B size (.slice a n cap) n cs→Sl W B size (.slice va (n-lo) vc) (n-lo) (cs.drop (lo*size)):=by
 refine⟨if cap=lo then a else a.map (·.add (lo*size)),cap-lo,fun W=> ?_,fun W B cs h=> ?_⟩
 rotate_left
 ·have h4:=sl_sub h h1 (Nat.le_refl _)
  rw[List.take_of_length_le (by rw[List.length_drop,h.1,Nat.sub_mul];exact Nat.le_refl _)] at h4
  exact h4
 rw[run_slice_l W t a n cap ht .i64 _ (by omega) (by omega),he]
 simp only[Result.andThen,sliced,Int.toNat_natCast]
theorem subs_h (hc:n≤cap) {hi:Nat} (h2:hi≤n): ∃va vc,(∀W,(Instr.slice t (.slice a n cap) none (some (.int .i64 (hi:Nat))) none).run Tryz.prog W= .ok (.slice va hi vc) W)∧ ∀W B cs,Sl W B size (.slice a n cap) n cs→Sl W B size (.slice va hi vc) hi (cs.take (hi*size)):=by
 refine⟨if cap=0 then a else a.map (·.add 0),cap,fun W=> ?_,fun W B cs h=> ?_⟩
 rotate_left
 ·have h4:=sl_sub h (Nat.zero_le _) h2
  simp only[Nat.zero_mul,List.drop_zero,Nat.sub_zero] at h4
  exact h4
 rw[run_slice_h W t a n cap ht .i64 _ (by omega) (by omega),he]
 simp only[Result.andThen,sliced,Int.toNat_natCast,Nat.zero_mul,Nat.sub_zero]
end
structure NxS (D:List Nat) (v:Value) (at_ m:Nat) (sa:Option Addr) (sc:Nat):Prop where
 sl: ∀W,Row 0 5 1 W v D.length (bC D)→Sl W W.heap.size 1 (.slice sa m sc) m (bC (D.drop at_))
 cap:m≤sc
 len:at_+m=D.length
theorem NxS.tail {D:List Nat} {v:Value} {at_ m k:Nat} {sa:Option Addr} {sc:Nat} (h:NxS D v at_ m sa sc) (hk:k≤m) (W0:World) (hr:Row 0 5 1 W0 v D.length (bC D)): ∃va vc,(∀W,(Instr.slice 23 (.slice sa m sc) (some (.int .i64 (k:Nat))) none none).run Tryz.prog W= .ok (.slice va (m-k) vc) W)∧NxS D v (at_+k) (m-k) va vc:=by
 obtain⟨va,vc,h1,h2⟩:=subs_l 23 Tryz.underlying23 szU8 (a:=sa) h.cap hk
 have h3: ∀W,Row 0 5 1 W v D.length (bC D)→Sl W W.heap.size 1 (.slice va (m-k) vc) (m-k) (bC (D.drop (at_+k))):=fun W hW=>by
  have:=h2 W _ _ (h.sl W hW)
  rwa [Nat.mul_one,bC_drop,List.drop_drop] at this
 have h4:=h.len
 obtain⟨_,_,e,hc⟩:=(h3 W0 hr).form
 injection e with _ _ e3
 exact⟨va,vc,h1,h3,by rw[e3];exact hc,by omega⟩
theorem NxS.head {D:List Nat} {v:Value} {at_ m k:Nat} {sa:Option Addr} {sc:Nat} (h:NxS D v at_ m sa sc) (hk:k≤m): ∃va vc,(∀W,(Instr.slice 23 (.slice sa m sc) none (some (.int .i64 (k:Nat))) none).run Tryz.prog W= .ok (.slice va k vc) W)∧ ∀W,Row 0 5 1 W v D.length (bC D)→Sl W W.heap.size 1 (.slice va k vc) k (bC ((D.drop at_).take k)):=by
 obtain⟨va,vc,h1,h2⟩:=subs_h 23 Tryz.underlying23 szU8 (a:=sa) h.cap hk
 refine⟨va,vc,h1,fun W hW=> ?_⟩
 have:=h2 W _ _ (h.sl W hW)
 rwa [Nat.mul_one,bC_take] at this
theorem NxS.first {D:List Nat} {a:Option Addr} {N cap fr:Nat} (hN:D.length=N) (hc:N≤cap) (hf:fr≤N) (W0:World) (hr:Row 0 5 1 W0 (.slice a N cap) N (bC D)): ∃va vc,(∀W,(Instr.slice 23 (.slice a N cap) (some (.int .i64 (fr:Nat))) (some (.int .i64 (N:Nat))) none).run Tryz.prog W= .ok (.slice va (N-fr) vc) W)∧NxS D (.slice a N cap) fr (N-fr) va vc:=by
 obtain⟨va,vc,h1,h2⟩:=subs_lh 23 Tryz.underlying23 szU8 (a:=a) hc hf (Nat.le_refl N)
 have h3: ∀W,Row 0 5 1 W (.slice a N cap) D.length (bC D)→Sl W W.heap.size 1 (.slice va (N-fr) vc) (N-fr) (bC (D.drop fr)):=fun W hW=>by
  rw[hN] at hW
  have:=h2 W _ _ hW.sl
  rwa [Nat.mul_one,Nat.mul_one,bC_drop,bC_take,List.take_of_length_le (by rw[List.length_drop,hN];exact Nat.le_refl _)] at this
 obtain⟨_,_,e,hc2⟩:=(h3 W0 (by rw[hN];exact hr)).form
 injection e with _ _ e3
 exact⟨va,vc,h1,h3,by rw[e3];exact hc2,by omega⟩
def EmiP (F:List Nat) (cb lv:Nat) (D:List Nat) (fr n:Nat) (S:List Bool) (f:Bool) (w:World) (e:Ending) (w':World):Prop:=e= .returned (.tuple #[])∧ ∃F' E,Cm F' w' cb lv D (fr+n) (S++E) false∧Mv F w F' w'∧E.length≤1500000∧ ∀p,p%8=S.length%8→BlkB f (D.take fr) (D.drop fr) p E
set_option maxHeartbeats 8000000 in
theorem emit0_any (cb wb fr n:Nat) (f:Bool) (G D:List Nat) (v:Value) (S:List Bool) (inn b0 b1 b2:Int) (w:World) (h:Cmq w cb wb 0 G v D fr S inn b0 b1 b2 false) (hn:fr+n=D.length) (hl:D.length≤30000) (hb: ∀x∈D,x<256) (hS:S.length≤1000):Calls Tryz.prog 26 #[.pointer (some ⟨cb,0,none⟩),.int .i64 (n:Nat),.bool f] w (EmiP (cb::(G++obk v)) cb 0 D fr n S f w):=by
 obtain⟨a,cap,rfl,hcap⟩:=h.dat.form
 obtain⟨N,hN⟩: ∃z,D.length=z:=⟨_,rfl⟩
 have HN:=Lib.hid hN
 have hdat:=h.dat
 have HM:=Lib.hid h
 rw[hN] at hdat hcap hl hn HM
 obtain⟨va,vc,hsl,hnx⟩:=NxS.first (a:=a) (fr:=fr) hN hcap (by omega) w hdat
 have HNX:=Lib.hid hnx
 have y1:IntKind.i64.wrap ((fr:Int)+(n:Int))=(N:Int):=by rw[IntWalk.i64_in _ (by omega)];omega
 have hfrn:N-fr=n:=by omega
 rw[hfrn] at hsl HNX
 have k0:=HM.out.own.1 0 _ rfl
 have k1:=HM.out.own.1 1 _ rfl
 have k2:=HM.out.own.1 2 _ rfl
 have HB:=Lib.hid hb
 have HFN:=Lib.hid (And.intro hn hfrn)
 clear h hN hdat hnx hb hn hfrn
 go_enter Tryz.func26,Tryz.ntmps26
 go_upto_region 0 with (fail)
 go_quiet (fail)
 have HM1:=Lib.hid (HM.out.below (below_drewN (Below.refl _ _) nq))
 have HF1:Hid (Fr (cb::(G++obk (.slice a N cap))) w (w.drewN nq)):=Lib.hid (Fr.of_below (below_drewN (Below.refl _ _) nq))
 have hz1:w.heap.size≤(w.drewN nq).heap.size:=HF1.out.size
 clear k0 k1 k2 HM hsl
 generalize w.drewN nq=w1 at*
 have k0:=HM1.out.own.1 0 _ rfl
 have k3:=HM1.out.own.1 3 _ rfl
 have HP:=Lib.hid (stored_any G wb n f S (D.drop fr) (.slice va n vc) w1 HM1.out.wr (by omega) (fun W hW=>HNX.out.sl W (HM1.out.dat.fr hW (fun k hk=>HM1.out.sep.2 2 1 k (by decide) hk))) (by rw[List.length_drop,HN.out];have:=HFN.out;omega) (by have:=HFN.out;omega) (fun x hx=>HB.out x (List.mem_of_mem_drop hx)))
 have HBK:Hid (∀p,p%8=S.length%8→BlkB f (D.take fr) (D.drop fr) p (storedB S.length f (D.drop fr))):=Lib.hid (fun p hp=>stored_blk f (D.take fr) (D.drop fr) p S.length hp (by rw[List.length_drop,HN.out];have:=HFN.out;omega) (fun x hx=>HB.out x (List.mem_of_mem_drop hx)))
 have HBL:Hid ((storedB S.length f (D.drop fr)).length≤1500000):=Lib.hid (by have:=storedB_len S.length f (D.drop fr);rw[List.length_drop,HN.out] at this;omega)
 go_wp2_with (fail)
 refine HP.out.mono ?_
 rintro e w2 ⟨rfl,G2,hw2,hf2,hn2⟩
 obtain⟨EB,hEB⟩: ∃z,storedB S.length f (D.drop fr)=z:=⟨_,rfl⟩
 rw[hEB] at HBK HBL hw2
 have HM2:=Lib.hid (HM1.out.write hw2 hf2 hn2)
 have HV2:Hid (Mv (cb::(G++obk (.slice a N cap))) w1 (cb::(G2++obk (.slice a N cap))) w2):=Lib.hid ⟨hf2.weak (fun x hx _=>by simp[hx]),fun k hk=>by
  rcases List.mem_cons.1 hk with h|hk
  ·exact .inl (by simp[h])
  rcases List.mem_append.1 hk with hk|hk
  ·rcases hn2 k hk with h|h
   ·exact .inl (by simp[h])
   ·exact .inr h
  ·exact .inl (by simp[hk])⟩
 clear hw2 hf2 hn2 hEB HP k0 k3
 have k5:=HM2.out.own.1 5 _ rfl
 have f5:=HM2.out.own.2 5
 go_upto_region 3 with (fail)
 go_region
 all_goals
  obtain⟨w3,hw3⟩: ∃z:World,z=(w2.setCell ⟨cb,5,none⟩ (.int .i64 (wrap64 (b0+1)))).drew:=⟨_,rfl⟩
  rw[←hw3]
  have hf3:Fr [cb] w2 w3:=by rw[hw3];exact ((Fr.refl _ _).setCell (p:=⟨cb,5,none⟩) (.inl (by simp)) _).drew
  have ho3:Own w3 cb (ccs 0 (.slice a N cap) fr wb inn (wrap64 (b0+1)) b1 b2 false):=by
   have h1:=HM2.out.own.set 5 (.int .i64 (wrap64 (b0+1))) (by simp[ccs])
   have h2:=h1.below ((Below.refl _ (w2.setCell ⟨cb,5,none⟩ (.int .i64 (wrap64 (b0+1))))).drew) (by simpa using HM2.out.lt)
   rw[hw3]
   exact h2
  have HM3:=Lib.hid (HM2.out.cells hf3 ho3)
  have HV3:=Lib.hid (HV2.out.trans (Mv.sub hf3 (fun x hx=>by rw[List.mem_singleton.1 hx];simp) (New.refl _ _)))
  clear hw3 hf3 ho3 k5 f5
  have k2:=HM3.out.own.1 2 _ rfl
  have f2:=HM3.out.own.2 2
  have hf4:Fr [cb] w3 (w3.setCell ⟨cb,2,none⟩ (.int .i64 (N:Nat))):=(Fr.refl _ _).setCell (p:=⟨cb,2,none⟩) (.inl (by simp)) _
  have HM4:=Lib.hid (HM3.out.cells (fr':=N) (inn':=inn) (b0':=wrap64 (b0+1)) (b1':=b1) (b2':=b2) (en':=false) hf4 (HM3.out.own.set 2 _ (by simp[ccs])))
  have HV4:=Lib.hid (HV3.out.trans (Mv.sub hf4 (fun x hx=>by rw[List.mem_singleton.1 hx];simp) (New.refl _ _)))
  clear hf4
  go_wp2_with (fail)
  go_end0
  have HVF:=HF1.out
  exact⟨by rfl,_,EB,by rw[HFN.out.1];exact HM4.out.cm,by rw[HN.out];exact (show Mv _ w _ w1 from⟨HVF,New.refl _ _⟩).trans HV4.out,HBL.out,HBK.out⟩
end Go.Proofs.YtmdgeoalamancaaGreatDoor
namespace Go.Proofs.YtmdgeoalamancaaGreatDoor
open Go.RowKit
open Bt Can Mc Pk
set_option maxHeartbeats 4000000 in
theorem bitsOf_any (ts:List Tk.T) (n B:Nat) (v:Value) (w:World) (h:Sl w B 3 v n (kC ts)) (hB:B≤w.heap.size) (hn:n=ts.length) (hl:n≤1000) (ho: ∀t∈ts,Tk.Ok t) (hG:Gl w):Calls Tryz.prog 122 #[v] w fun e w'=>(∃x:Int,e= .returned (.int .i64 x))∧Below w.heap.size w w':=by
 have HCO:=Lib.hid (costs_any ts n B v w h hB hn hl ho hG)
 have HCH:=Lib.hid (fun a b c W=>cheapest_any a b c W)
 clear h hn ho hG
 go_enter Tryz.func122,Tryz.ntmps122
 go_wp2_with (fail)
 refine HCO.out.mono ?_
 rintro e w1 ⟨x0,x1,x2,rfl,hb1⟩
 obtain⟨w2,hw2⟩: ∃z:World,z=w1.alloc (.cells #[.int .i64 x0,.int .i64 x1,.int .i64 x2] 59):=⟨_,rfl⟩
 have hb12:Below w1.heap.size w1 w2:=by rw[hw2];exact (Below.refl _ _).alloc (Nat.le_refl _) _
 have HO2:Hid (Own w2 w1.heap.size [.int .i64 x0,.int .i64 x1,.int .i64 x2]):=Lib.hid (by rw[hw2];exact Own.new_at w1 _ _ _ rfl)
 have HB2:=Lib.hid (hb1.trans (hb12.mono hb1.size))
 have hz2:w1.heap.size<w2.heap.size:=by rw[hw2];simp
 clear hb1 hb12 HCO
 go_upto_region 2 with (fail)
 rw[←hw2]
 clear hw2
 obtain⟨cb2,hcb⟩: ∃z,w1.heap.size=z:=⟨_,rfl⟩
 rw[hcb] at HO2 hz2 ⊢
 clear hcb
 have m0:=HO2.out.1 0 _ rfl
 have m1:=HO2.out.1 1 _ rfl
 have m2:=HO2.out.1 2 _ rfl
 go_wp2_with (fail)
 refine (HCH.out x0 x1 x2 w2).mono ?_
 rintro e w4 ⟨k,hk,rfl,hb4⟩
 have HO4:=Lib.hid (HO2.out.below hb4 hz2)
 have HB4:=Lib.hid (HB2.out.trans (hb4.mono HB2.out.size))
 clear hb4 m0 m1 m2 HCH HO2
 obtain⟨y,ky⟩: ∃y:Int,w4.cell? ⟨cb2,k,none⟩=some (.int .i64 y):=by
  obtain rfl|rfl|rfl:k=0∨k=1∨k=2:=by omega
  ·exact⟨x0,HO4.out.1 0 _ rfl⟩
  ·exact⟨x1,HO4.out.1 1 _ rfl⟩
  ·exact⟨x2,HO4.out.1 2 _ rfl⟩
 have hki:(k:Int)<3:=by omega
 have hkn:k<3:=by omega
 go_wp2_with (fail)
 go_ret
 exact⟨⟨y,rfl⟩,HB4.out⟩
abbrev Pce:=Nat × Nat × Int
def pcc (p:Pce):List Value:=[.int .i64 (p.1:Nat),.int .i64 (p.2.1:Nat),.int .i64 p.2.2]
def pcC (ps:List Pce):List Value:=ps.flatMap pcc
theorem pcC_app (a b:List Pce):pcC (a++b)=pcC a++pcC b:=by unfold pcC;rw[List.flatMap_append]
theorem pcC_one (ps:List Pce): ∀u∈pcC ps,u.oneCell'=true:=by
 intro u hu
 unfold pcC at hu
 obtain⟨p,_,hp⟩:=List.mem_flatMap.1 hu
 simp[pcc] at hp
 rcases hp with rfl|rfl|rfl<;>rfl
theorem pcC_get: ∀(ps:List Pce) (j:Nat) (p:Pce),ps[j]? =some p→(pcC ps)[j*3]? =some (.int .i64 (p.1:Nat))∧(pcC ps)[j*3+1]? =some (.int .i64 (p.2.1:Nat))∧(pcC ps)[j*3+2]? =some (.int .i64 p.2.2)
 | [],_,_,h=>by simp at h
 |q::rs,0,r,h=>by
  simp only[List.getElem?_cons_zero,Option.some.injEq] at h
  subst h
  exact⟨rfl,rfl,rfl⟩
 |q::rs,j+1,r,h=>by
  have:=pcC_get rs j r (by simpa using h)
  have e:pcC (q::rs)= .int .i64 (q.1:Nat):: .int .i64 (q.2.1:Nat):: .int .i64 q.2.2::pcC rs:=by unfold pcC;rw[List.flatMap_cons];rfl
  rw[e]
  refine⟨?_,?_,?_⟩
  ·rw[show (j+1)*3=j*3+3 by omega];exact this.1
  ·rw[show (j+1)*3+1=j*3+1+3 by omega];exact this.2.1
  ·rw[show (j+1)*3+2=j*3+2+3 by omega];exact this.2.2
def Ctg:Nat→List Pce→Nat→Prop
 |a,[],b=>a=b
 |a,p::r,b=>p.1=a∧a≤p.2.1∧Ctg p.2.1 r b
theorem Ctg.snoc {b c:Nat} {x:Int} (hbc:b≤c): ∀{a:Nat} {ps:List Pce},Ctg a ps b→Ctg a (ps++[(b,c,x)]) c
 |a,[],h=>by
  have:a=b:=h
  subst this
  exact⟨rfl,hbc,rfl⟩
 |a,p::r,h=>⟨h.1,h.2.1,Ctg.snoc hbc h.2.2⟩
theorem Ctg.le: ∀{a b:Nat} {ps:List Pce},Ctg a ps b→a≤b
 |a,b,[],h=>Nat.le_of_eq h
 |a,b,p::r,h=>Nat.le_trans h.2.1 (Ctg.le h.2.2)
theorem Ctg.mem: ∀{a b:Nat} {ps:List Pce},Ctg a ps b→ ∀p∈ps,p.1≤p.2.1∧p.2.1≤b
 |a,b,[],h,p,hp=>by cases hp
 |a,b,q::r,h,p,hp=>by
  rcases List.mem_cons.1 hp with rfl|hp
  ·exact⟨by rw[h.1];exact h.2.1,Ctg.le h.2.2⟩
  ·exact Ctg.mem h.2.2 p hp
theorem info_pc:(Tryz.prog.info? 116).map (fun i=>(i.zero,i.size,i.bytes))=some (some (.agg #[.int .i64 0,.int .i64 0,.int .i64 0]),3,24):=by kernel_rfl
theorem szTk (W:World):(sizeOf (Tryz.prog.elem 109)).run Tryz.prog W= .ok 3 W:=by kernel_rfl
theorem kC_drop (ts:List Tk.T): ∀k,(kC ts).drop (k*3)=kC (ts.drop k):=by
 induction ts with
 |nil=>intro k;simp[kC]
 |cons t ts ih=>
  intro k
  cases k with
  |zero=>rfl
  |succ k=>
   rw[kC_cons,show (k+1)*3=k*3+3 by omega]
   exact ih k
theorem kC_take (ts:List Tk.T): ∀k,(kC ts).take (k*3)=kC (ts.take k):=by
 induction ts with
 |nil=>intro k;simp[kC]
 |cons t ts ih=>
  intro k
  cases k with
  |zero=>simp[kC]
  |succ k=>
   rw[kC_cons,List.take_succ_cons,kC_cons,←ih k,show (k+1)*3=k*3+3 by omega]
   rfl
def PcsP (n:Nat) (w:World) (e:Ending) (w':World):Prop:= ∃v' ps,e= .returned v'∧Row w.heap.size 116 3 w' v' ps.length (pcC ps)∧Ctg 0 ps n∧ps≠[]∧ps.length≤n+1∧ps.length≤2∧Below w.heap.size w w'
set_option maxHeartbeats 8000000 in
theorem pieces_any (ts:List Tk.T) (n B:Nat) (v:Value) (w:World) (h:Sl w B 3 v n (kC ts)) (hB:B≤w.heap.size) (hn:n=ts.length) (hl:n≤1000) (ho: ∀t∈ts,Tk.Ok t) (hG:Gl w):Calls Tryz.prog 80 #[v,.int .i64 512] w (PcsP n w):=by
 obtain⟨a,cap,rfl,_⟩:=h.form
 have HSUB:=Lib.hid (fun (lo hi:Nat) (h1:lo≤hi) (h2:hi≤n)=>sub_lh 109 Tryz.underlying109 szTk h h1 h2)
 have HBO:=Lib.hid (fun (lo hi:Nat) (h1:lo≤hi) (h2:hi≤n) (W:World) (hW:Below w.heap.size w W) (sv:Value) (hs:Sl w B 3 sv (hi-lo) ((kC ts).drop (lo*3) |>.take ((hi-lo)*3)))=>bitsOf_any ((ts.drop lo).take (hi-lo)) (hi-lo) B sv W (by rw[kC_drop,kC_take] at hs;exact hs.below (hW.mono hB)) (Nat.le_trans hB hW.size) (by rw[List.length_take,List.length_drop];omega) (by omega) (fun t ht=>ho t (List.mem_of_mem_drop (List.mem_of_mem_take ht))) (hG.fr (Fr.of_below (F:=[]) hW) (fun _ h=>by cases h)))
 have q0:(if (512:Int)<1 then (1:Int) else 512)=512:=by decide
 clear h hn ho hG
 go_enter Tryz.func80,Tryz.ntmps80
 go_upto_region 4 with (fail)
 go_loopw [6,5] (fun u vl wr=> ∃(fr:Nat) (ps:List Pce),u= .int .i64 (fr:Nat)∧fr≤n∧Hid (Ctg 0 ps fr)∧Hid (ps.length≤fr∧(0<fr→ps≠[])∧(ps.length*512=fr∨(fr=n∧ps.length*512≤n+511)))∧Hid (Row w.heap.size 116 3 wr vl ps.length (pcC ps))∧Hid (Below w.heap.size w wr)) (fun u _ _=>n+1-(intOf u).toNat)
 case atStart=>exact⟨0,[],rfl,Nat.zero_le _,Lib.hid rfl,Lib.hid ⟨Nat.le_refl _,fun h=>by omega,.inl rfl⟩,Lib.hid Row.nil,Lib.hid (Below.refl _ _)⟩
 case round=>
  obtain⟨fr,ps,rfl,hfr,HC,HL,HR,HB'⟩:=hrel
  obtain⟨wo,rfl⟩: ∃z:World,z=wr:=⟨_,rfl⟩
  obtain⟨la,lc,rfl,_⟩:=HR.out.form
  by_cases hgo:fr=0∨fr<n
  ·obtain⟨m,hm⟩: ∃m:Nat,min 512 (n-fr)=m:=⟨_,rfl⟩
   have hmle:m≤512∧m≤n-fr∧(m=0→n=fr):=by omega
   have p1:IntKind.i64.wrap ((n:Int)-(fr:Int))=((n-fr:Nat):Int):=by rw[IntWalk.i64_in _ (by omega)];omega
   obtain⟨r,hr⟩: ∃z,n-fr=z:=⟨_,rfl⟩
   rw[hr] at p1 hm
   have p2:min (512:Int) (r:Int)=(m:Int):=by omega
   have p2a:(if (r:Int)<512 then (r:Int) else 512)=(m:Int):=by split<;>omega
   have p2b:(if (512:Int)<(r:Int) then (512:Int) else (r:Int))=(m:Int):=by split<;>omega
   have p2c:(if (512:Int)≤(r:Int) then (512:Int) else (r:Int))=(m:Int):=by split<;>omega
   have p2d:(if (r:Int)≤512 then (r:Int) else 512)=(m:Int):=by split<;>omega
   obtain⟨to2,hto⟩: ∃z,fr+m=z:=⟨_,rfl⟩
   have p3:IntKind.i64.wrap ((fr:Int)+(m:Int))=((to2:Nat):Int):=by rw[IntWalk.i64_in _ (by omega)];omega
   have ht1:fr≤to2:=by omega
   have ht2:to2≤n:=by omega
   obtain⟨sv,hsv,hssl⟩:=HSUB.out fr to2 ht1 ht2
   have HBI:=Lib.hid (HBO.out fr to2 ht1 ht2 wo HB'.out sv hssl)
   obtain⟨sa,sc,rfl,_⟩:=hssl.form
   have HTO:=Lib.hid (And.intro hto (And.intro hmle hr))
   have hpl:ps.length≤1000:=by have:=HL.out.1;omega
   have hh:(fr==0 || decide (fr<n))=true:=by
    rcases hgo with h|h
    ·subst h;rfl
    ·rw[decide_eq_true h];simp
   clear hm hr hto hmle hssl
   have HAPP:Hid (∀(y:Int) (W:World),Below w.heap.size w W→Row w.heap.size 116 3 W (.slice la ps.length lc) ps.length (pcC ps)→True):=Lib.hid (fun _ _ _ _=>trivial)
   clear HAPP
   have fin: ∀(_:True),True:=fun _=>trivial
   clear fin
   by_cases h0:fr=0
   ·as_aux_lemma=>
    subst h0
    obtain rfl:to2=m:=by have:=HTO.out.1;omega
    obtain rfl:r=n:=by have:=HTO.out.2.2;omega
    have p4:IntKind.i64.wrap (to2:Int)=(to2:Int):=IntWalk.i64_in _ (by omega)
    have p5:IntKind.i64.wrap (r:Int)=(r:Int):=IntWalk.i64_in _ (by omega)
    have hsv0: ∀W,(Instr.slice 109 (.slice a r cap) (some (.int .i64 0)) (some (.int .i64 (to2:Nat))) none).run Tryz.prog W= .ok (.slice sa (to2-0) sc) W:=hsv
    rw[Nat.sub_zero] at hsv0 HBI
    clear hh hgo hsv
    go_upto_region 6 with (fail)
    go_wp2_with (fail)
    refine HBI.out.mono ?_
    rintro e w3 ⟨⟨y,rfl⟩,hb3⟩
    have hb03:=HB'.out.trans (hb3.mono HB'.out.size)
    have HR3:=Lib.hid (HR.out.below hb3)
    have HRX:=Lib.hid ((HR.out.below hb3).below ((Below.refl w3.heap.size w3).alloc (Nat.le_refl _) (.cells #[.int .i64 ((0:Nat):Int),.int .i64 (to2:Nat),.int .i64 y] 116)))
    have HBX:Hid (Below w.heap.size w (w3.alloc (.cells #[.int .i64 ((0:Nat):Int),.int .i64 (to2:Nat),.int .i64 y] 116))):=Lib.hid (hb03.alloc hb03.size _)
    have HSX:Hid (Sl (w3.alloc (.cells #[.int .i64 ((0:Nat):Int),.int .i64 (to2:Nat),.int .i64 y] 116)) (w3.heap.size+1) 3 (.slice (some ⟨w3.heap.size,0,none⟩) 1 1) 1 (pcC [(0,to2,y)])):=Lib.hid (Sl.new w3 3 1 [.int .i64 ((0:Nat):Int),.int .i64 (to2:Nat),.int .i64 y] 116 rfl)
    clear hb3 hb03
    go_wp2_with (at_builtin;refine append_rowM (base:=w.heap.size) (size:=3) (xs:=pcC ps) Tryz.underlying112 info_pc rfl (by decide) rfl _ _ rfl rfl HRX.out rfl HSX.out (pcC_one _) ?_ ?_ ?_ ?_;omega;omega;exact HBX.out.size)
    intro v6 w6 hr6 hb6 hg6 hw6
    obtain⟨la6,lc6,rfl,_⟩:=hr6.form
    have HR6:Hid (Row w.heap.size 116 3 w6 (.slice la6 (ps.length+1) lc6) (ps++[(0,to2,y)]).length (pcC (ps++[(0,to2,y)]))):=Lib.hid (by rw[List.length_append,pcC_app];exact hr6)
    have HB6:=Lib.hid (HBX.out.trans hb6)
    have HC6:=Lib.hid (Ctg.snoc (x:=y) ht1 HC.out)
    clear hr6 hb6 hg6 hw6 HRX HBX HSX
    by_cases hm0:to2=0
    ·subst hm0
     have HT0:Hid (r=0):=Lib.hid (by have:=HTO.out;omega)
     go_wp2_with (fail)
     go_ret
     exact⟨_,ps++[(0,0,y)],rfl,HR6.out,by rw[HT0.out];exact HC6.out,by simp,by rw[List.length_append,List.length_singleton];have:=HL.out.1;omega,by rw[List.length_append,List.length_singleton];have:=HL.out.1;omega,HB6.out⟩
    ·have e0:((to2:Int)==0)=false:=by rw[beq_eq_false_iff_ne];omega
     have e0':(to2==0)=false:=by rw[beq_eq_false_iff_ne];omega
     have e0'':decide ((to2:Int)=0)=false:=decide_eq_false (by omega)
     go_wp2_with (fail)
     go_roundw
     case rel=>exact⟨to2,ps++[(0,to2,y)],rfl,ht2,HC6,Lib.hid ⟨by rw[List.length_append,List.length_singleton];have:=HL.out.1;have:=HTO.out;omega,fun _=>by simp,by rw[List.length_append,List.length_singleton];have:=HL.out.2.2;have:=HTO.out;omega⟩,HR6,HB6⟩
     case measure=>simp[intOf]<;>(have:=HTO.out;omega)
   ·as_aux_lemma=>
    have hlt:fr<n:=by omega
    have e1:((fr:Int)==0)=false:=by rw[beq_eq_false_iff_ne];omega
    have e1':(fr==0)=false:=by rw[beq_eq_false_iff_ne];omega
    have e1'':decide ((fr:Int)=0)=false:=decide_eq_false (by omega)
    have e2:decide (fr<n)=true:=decide_eq_true hlt
    have e2':decide ((fr:Int)<(n:Int))=true:=decide_eq_true (by omega)
    clear hh hgo
    go_upto_region 6 with (fail)
    go_wp2_with (fail)
    refine HBI.out.mono ?_
    rintro e w3 ⟨⟨y,rfl⟩,hb3⟩
    have hb03:=HB'.out.trans (hb3.mono HB'.out.size)
    have HR3:=Lib.hid (HR.out.below hb3)
    have HRX:=Lib.hid ((HR.out.below hb3).below ((Below.refl w3.heap.size w3).alloc (Nat.le_refl _) (.cells #[.int .i64 (fr:Nat),.int .i64 (to2:Nat),.int .i64 y] 116)))
    have HBX:Hid (Below w.heap.size w (w3.alloc (.cells #[.int .i64 (fr:Nat),.int .i64 (to2:Nat),.int .i64 y] 116))):=Lib.hid (hb03.alloc hb03.size _)
    have HSX:Hid (Sl (w3.alloc (.cells #[.int .i64 (fr:Nat),.int .i64 (to2:Nat),.int .i64 y] 116)) (w3.heap.size+1) 3 (.slice (some ⟨w3.heap.size,0,none⟩) 1 1) 1 (pcC [(fr,to2,y)])):=Lib.hid (Sl.new w3 3 1 [.int .i64 (fr:Nat),.int .i64 (to2:Nat),.int .i64 y] 116 rfl)
    clear hb3 hb03
    go_wp2_with (at_builtin;refine append_rowM (base:=w.heap.size) (size:=3) (xs:=pcC ps) Tryz.underlying112 info_pc rfl (by decide) rfl _ _ rfl rfl HRX.out rfl HSX.out (pcC_one _) ?_ ?_ ?_ ?_;omega;omega;exact HBX.out.size)
    intro v6 w6 hr6 hb6 hg6 hw6
    obtain⟨la6,lc6,rfl,_⟩:=hr6.form
    have HR6:Hid (Row w.heap.size 116 3 w6 (.slice la6 (ps.length+1) lc6) (ps++[(fr,to2,y)]).length (pcC (ps++[(fr,to2,y)]))):=Lib.hid (by rw[List.length_append,pcC_app];exact hr6)
    have HB6:=Lib.hid (HBX.out.trans hb6)
    have HC6:=Lib.hid (Ctg.snoc (x:=y) ht1 HC.out)
    clear hr6 hb6 hg6 hw6 HRX HBX HSX
    have hm0:m≠0:=by have:=HTO.out;omega
    have e0:((m:Int)==0)=false:=by rw[beq_eq_false_iff_ne];omega
    have e0':(m==0)=false:=by rw[beq_eq_false_iff_ne];omega
    have e0'':decide ((m:Int)=0)=false:=decide_eq_false (by omega)
    go_wp2_with (fail)
    go_roundw
    case rel=>exact⟨to2,ps++[(fr,to2,y)],rfl,ht2,HC6,Lib.hid ⟨by rw[List.length_append,List.length_singleton];have:=HL.out.1;have:=HTO.out;omega,fun _=>by simp,by rw[List.length_append,List.length_singleton];have:=HL.out.2.2;have:=HTO.out;omega⟩,HR6,HB6⟩
    case measure=>simp[intOf]<;>(have:=HTO.out;omega)
  ·have hf0:fr≠0:=fun h=>hgo (.inl h)
   have hfn: ¬fr<n:=fun h=>hgo (.inr h)
   have e1:((fr:Int)==0)=false:=by rw[beq_eq_false_iff_ne];omega
   have e1':(fr==0)=false:=by rw[beq_eq_false_iff_ne];omega
   have e1'':decide ((fr:Int)=0)=false:=decide_eq_false (by omega)
   have e2:decide (fr<n)=false:=decide_eq_false hfn
   have e2':decide ((fr:Int)<(n:Int))=false:=decide_eq_false (by omega)
   have hfe:fr=n:=by omega
   have HFE:=Lib.hid hfe
   clear hgo hfe
   go_wp2_with (fail)
   go_ret
   exact⟨_,ps,rfl,HR.out,by rw[←HFE.out];exact HC.out,HL.out.2.1 (by omega),by have:=HL.out.1;omega,by have:=HL.out.2.2;omega,HB'.out⟩
end Go.Proofs.YtmdgeoalamancaaGreatDoor
namespace Go.Proofs.YtmdgeoalamancaaGreatDoor
open Go.RowKit
open Bt Can Mc Pk
structure Prt where
 a:Nat
 b:Nat
 x:Int
 L:List Nat
 D:List Nat
 E:Int
 s:Nat
def ptc (p:Prt):List Value:=[.int .i64 (p.a:Nat),.int .i64 (p.b:Nat),.int .i64 p.x]++(tbC p.L p.D p.E++[.int .i64 (p.s:Nat)])
structure PtOK (p:Prt):Prop where
 le:p.a≤p.b
 tb:Tbl (p.b-p.a) p.L p.D
 s:p.s≤258*(p.b-p.a)
theorem PtOK.len {p:Prt} (h:PtOK p):(ptc p).length=321:=by
 unfold ptc
 rw[List.length_append,List.length_append,tbC_len h.tb]
 rfl
theorem ptc_one (p:Prt): ∀u∈ptc p,u.oneCell'=true:=by
 intro u hu
 unfold ptc at hu
 rw[List.mem_append,List.mem_append] at hu
 rcases hu with hu|hu|hu
 ·simp at hu
  rcases hu with rfl|rfl|rfl<;>rfl
 ·exact tbC_one _ _ _ u hu
 ·simp at hu
  subst hu
  rfl
theorem fold_put (cells v:Array Value) (off:Nat) (h:off+v.size≤cells.size):v.zipIdx.foldl (fun cs (x:Value × Nat)=>cs.setIfInBounds (off+x.2) x.1) cells=(splice cells.toList off v.toList).toArray:=by
 have h1:=Great.foldl_set off v.toList 0 cells
 have e:v.zipIdx.foldl (fun cs (x:Value × Nat)=>cs.setIfInBounds (off+x.2) x.1) cells=(v.toList.zipIdx 0).foldl (fun cs (x:Value × Nat)=>cs.setIfInBounds (off+x.2) x.1) cells:=by
  rw[←Array.foldl_toList,Array.toList_zipIdx]
 rw[e]
 refine Array.toList_inj.1 (List.ext_getElem? fun k=> ?_)
 rw[Array.getElem?_toList,h1.2 k,Nat.add_zero,Array.length_toList,List.toList_toArray]
 unfold splice
 by_cases hk:k<off
 ·rw[if_neg (by omega),List.getElem?_append_left (by simp only[List.length_take,Array.length_toList];omega),List.getElem?_take,if_pos hk,Array.getElem?_toList]
 ·rw[List.getElem?_append_right (by simp only[List.length_take,Array.length_toList];omega),List.length_take,show min off cells.toList.length=off from by simp only[Array.length_toList];omega]
  by_cases hk2:k<off+v.size
  ·rw[if_pos ⟨by omega,hk2,by omega⟩,List.getElem?_append_left (by rw[Array.length_toList];omega)]
  ·rw[if_neg (by omega),List.getElem?_append_right (by rw[Array.length_toList];omega),List.getElem?_drop,Array.length_toList,Array.getElem?_toList]
   congr 1
   omega
theorem part_built: ∀parts:List (Nat × Value),Tryz.prog.built 221 parts=Instr.fill (#[(0,3),(3,317),(320,1)][·]?) Tryz.zeroCells221 parts:=by
 intro parts
 kernel_rfl
theorem zero_part:Tryz.zeroCells221.size=321:=by kernel_rfl
theorem part_isz:(Tryz.prog.info? 221).map (·.size)=some 321:=by kernel_rfl
theorem fill_step {pl:Nat→Option (Nat × Nat)} {cells:Array Value} {i off n:Nat} {v:Value} {rest:List (Nat × Value)} (hp:pl i=some (off,n)) (hv:v.cells.size=n) (h:off+n≤cells.size):Instr.fill pl cells ((i,v)::rest)=Instr.fill pl (splice cells.toList off v.cells.toList).toArray rest:=by
 conv=>lhs;unfold Instr.fill
 rw[hp]
 simp only
 rw[if_neg (by simp[hv];omega)]
 have:=fold_put cells v.cells off (by omega)
 rw[←this]
theorem splice_len {α:Type} (L:List α) (off:Nat) (cs:List α) (h:off+cs.length≤L.length):(splice L off cs).length=L.length:=by
 unfold splice
 rw[List.length_append,List.length_append,List.length_take,List.length_drop]
 omega
theorem splice3 {α:Type} (Z a b c:List α) (hZ:Z.length=a.length+b.length+c.length):splice (splice (splice Z 0 a) a.length b) (a.length+b.length) c=a++(b++c):=by
 have e1:splice Z 0 a=a++Z.drop a.length:=by unfold splice;simp
 have e2:splice (splice Z 0 a) a.length b=a++(b++Z.drop (a.length+b.length)):=by
  rw[e1]
  unfold splice
  rw[List.take_left,List.drop_append]
  simp
 rw[e2]
 have e3:(a++(b++Z.drop (a.length+b.length))).take (a.length+b.length)=a++b:=by rw[←List.append_assoc,List.take_left' (by rw[List.length_append])]
 have e4:(a++(b++Z.drop (a.length+b.length))).drop (a.length+b.length+c.length)=[]:=List.drop_eq_nil_of_le (by simp only[List.length_append,List.length_drop];omega)
 unfold splice
 rw[e3,e4,List.append_nil,List.append_assoc]
theorem run_build_part (p:Prt) (ht:PtOK p) (parts:Array (Nat × Value)) (hp:parts.toList=[(0,.agg #[.int .i64 (p.a:Nat),.int .i64 (p.b:Nat),.int .i64 p.x]),(1,.agg (tbC p.L p.D p.E).toArray),(2,.int .i64 (p.s:Nat))]) (W:World):(Instr.build 221 parts).run Tryz.prog W= .ok (.agg (ptc p).toArray) W:=by
 refine run_build W _ _ _ ?_
 rw[hp,part_built]
 have h1:=tbC_len (E:=p.E) ht.tb
 have h0:=zero_part
 generalize Tryz.zeroCells221=Z at*
 rw[fill_step (off:=0) (n:=3) rfl rfl (by omega)]
 have l1:(splice Z.toList 0 (Value.agg #[.int .i64 (p.a:Nat),.int .i64 (p.b:Nat),.int .i64 p.x]).cells.toList).length=321:=by
  rw[splice_len _ _ _ (by rw[show Z.toList.length=321 from by rw[Array.length_toList,h0]];show 0+3≤321;omega),Array.length_toList,h0]
 rw[fill_step (off:=3) (n:=317) rfl (by show (tbC p.L p.D p.E).toArray.size=317;rw[List.size_toArray,h1]) (by rw[List.size_toArray,l1];omega)]
 have l2:(splice (splice Z.toList 0 (Value.agg #[.int .i64 (p.a:Nat),.int .i64 (p.b:Nat),.int .i64 p.x]).cells.toList).toArray.toList 3 (Value.agg (tbC p.L p.D p.E).toArray).cells.toList).length=321:=by
  rw[List.toList_toArray,splice_len _ _ _ (by rw[l1];show 3+(tbC p.L p.D p.E).toArray.toList.length≤321;rw[List.toList_toArray,h1];omega),l1]
 rw[fill_step (off:=320) (n:=1) rfl rfl (by rw[List.size_toArray,l2];omega)]
 unfold Instr.fill
 congr 2
 have h3:=splice3 Z.toList [Value.int .i64 (p.a:Nat),.int .i64 (p.b:Nat),.int .i64 p.x] (tbC p.L p.D p.E) [.int .i64 (p.s:Nat)] (by rw[Array.length_toList,h0,h1];rfl)
 rw[h1] at h3
 rw[List.toList_toArray,List.toList_toArray]
 exact h3
end Go.Proofs.YtmdgeoalamancaaGreatDoor
