/- Lazy matching: parse. -/
import Derived.Test.YtmdgeoalamancaaGreatDoorZAP
set_option maxRecDepth 100000
set_option linter.unusedVariables false
set_option linter.unusedSimpArgs false
namespace Go.Proofs.YtmdgeoalamancaaGreatDoor
open Go.RowKit Go.Maps Go.WideMaps
open Bt Can Mc
theorem info_tk:(Tryz.prog.info? 162).map (fun i=>(i.zero,i.size,i.bytes))=some (some (.agg #[.int .u8 0,.int .i64 0,.int .i64 0]),3,24):=by kernel_rfl
structure Ps (w0 w:World) (p5 p7 p10 fb:Nat) (F:List Nat) (data:List Nat) (kn dp g:Nat) (b:Bool) (s d:Nat) (vl:Value) (ts:List Tk.T):Prop where
 fd:Fd F w fb data kn
 kn:kn≤data.length
 o5:Own w p5 [.int .i64 (dp:Nat),.bool b,.int .i64 (g:Nat)]
 o7:Own w p7 [.pointer (some ⟨fb,0,none⟩)]
 o10:Own w p10 [.int .i64 (s:Nat),.int .i64 (d:Nat)]
 row:Row 0 162 3 w vl ts.length (kC ts)
 sep:Sep [[p5],[p7],[p10],F,obk vl] w.heap.size
 bel:Below w0.heap.size w0 w
 ge: ∀i k,k∈[[p5],[p7],[p10],F,obk vl].getD i []→w0.heap.size≤k
section
variable {w0 w w':World} {p5 p7 p10 fb kn dp g s d:Nat} {F data:List Nat} {b:Bool} {vl:Value} {ts:List Tk.T}
theorem Ps.lt (h:Ps w0 w p5 p7 p10 fb F data kn dp g b s d vl ts):p5<w.heap.size∧p7<w.heap.size∧p10<w.heap.size:=⟨h.sep.1 0 p5 (by simp),h.sep.1 1 p7 (by simp),h.sep.1 2 p10 (by simp)⟩
theorem Ps.below (h:Ps w0 w p5 p7 p10 fb F data kn dp g b s d vl ts) (hb:Below w.heap.size w w'):Ps w0 w' p5 p7 p10 fb F data kn dp g b s d vl ts:=
 ⟨Fq.below h.fd hb,h.kn,h.o5.below hb h.lt.1,h.o7.below hb h.lt.2.1,h.o10.below hb h.lt.2.2,h.row.below hb,h.sep.up hb.size,h.bel.trans (hb.mono h.bel.size),h.ge⟩
theorem Ps.matched {F':List Nat} {kn':Nat} (h:Ps w0 w p5 p7 p10 fb F data kn dp g b s d vl ts) (hf:Fd F' w' fb data kn') (hk:kn'≤data.length) (hv:Mv F w F' w'):Ps w0 w' p5 p7 p10 fb F' data kn' dp g b s d vl ts:=by
 have hn: ∀i k,i≠3→k∈[[p5],[p7],[p10],F,obk vl].getD i []→k ∉ F:=fun i k hi hk hm=>h.sep.2 i 3 k hi hk hm
 refine⟨hf,hk,h.o5.fr hv.1 h.lt.1 (hn 0 p5 (by decide) (by simp)),h.o7.fr hv.1 h.lt.2.1 (hn 1 p7 (by decide) (by simp)),h.o10.fr hv.1 h.lt.2.2 (hn 2 p10 (by decide) (by simp)),h.row.fr hv.1 (fun k hk=>hn 4 k (by decide) hk),h.sep.set hv.1.size 3 F' (fun k hk=>⟨Fq.lt hf k hk,hv.2 k hk⟩),h.bel.trans (hv.1.below h.bel.size (fun k hk=>h.ge 3 k hk)),fun i k hk=> ?_⟩
 rcases getD_set_nil [[p5],[p7],[p10],F,obk vl] 3 i F' (k:=k) hk with ⟨_,h1⟩|⟨_,h1⟩
 ·rcases hv.2 k h1 with h2|h2
  ·exact h.ge 3 k h2
  ·exact Nat.le_trans h.bel.size h2
 ·exact h.ge i k h1
theorem Ps.here (h:Ps w0 w p5 p7 p10 fb F data kn dp g b s d vl ts) (s' d':Nat):Ps w0 ((w.setCell ⟨p10,0,none⟩ (.int .i64 (s':Nat))).setCell ⟨p10,1,none⟩ (.int .i64 (d':Nat))) p5 p7 p10 fb F data kn dp g b s' d' vl ts:=by
 have hf:Fr [p10] w ((w.setCell ⟨p10,0,none⟩ (.int .i64 (s':Nat))).setCell ⟨p10,1,none⟩ (.int .i64 (d':Nat))):=((Fr.refl _ _).setCell (p:=⟨p10,0,none⟩) (.inl (by simp)) _).setCell (p:=⟨p10,1,none⟩) (.inl (by simp)) _
 have hn: ∀i k,i≠2→k∈[[p5],[p7],[p10],F,obk vl].getD i []→k ∉ [p10]:=fun i k hi hk hm=>by
  rw[List.mem_singleton.1 hm] at hk
  exact h.sep.2 i 2 p10 hi hk (by simp)
 exact⟨Fq.fr h.fd hf (fun k hk=>hn 3 k (by decide) hk),h.kn,h.o5.fr hf h.lt.1 (hn 0 p5 (by decide) (by simp)),h.o7.fr hf h.lt.2.1 (hn 1 p7 (by decide) (by simp)),(h.o10.set 0 _ (by simp)).set 1 _ (by simp),h.row.fr hf (fun k hk=>hn 4 k (by decide) hk),h.sep.up hf.size,h.bel.trans (hf.below h.bel.size (fun k hk=>h.ge 2 k hk)),h.ge⟩
theorem Ps.list {vl':Value} {t:Tk.T} (h:Ps w0 w p5 p7 p10 fb F data kn dp g b s d vl ts) (hr:Row 0 162 3 w' vl' (ts.length+1) (kC ts++kC [t])) (hg:w.grownBy w' vl.ownBlock) (hw:vl'.ownBlock=vl.ownBlock∨ ∀q,vl'.ownBlock=some q→w.heap.size≤q):Ps w0 w' p5 p7 p10 fb F data kn dp g b s d vl' (ts++[t]):=by
 have hf:Fr (obk vl) w w':=(Fr.refl _ _).grown hg (fun k hk _=>mem_obk.2 hk)
 have hn: ∀i k,i≠4→k∈[[p5],[p7],[p10],F,obk vl].getD i []→k ∉ obk vl:=fun i k hi hk hm=>h.sep.2 i 4 k hi hk hm
 have hv: ∀k∈obk vl',k∈obk vl∨w.heap.size≤k:=fun k hk=>by
  rcases hw with e|e
  ·exact .inl (mem_obk.2 (by rw[←e];exact mem_obk.1 hk))
  ·exact .inr (e k (mem_obk.1 hk))
 refine⟨Fq.fr h.fd hf (fun k hk=>hn 3 k (by decide) hk),h.kn,h.o5.fr hf h.lt.1 (hn 0 p5 (by decide) (by simp)),h.o7.fr hf h.lt.2.1 (hn 1 p7 (by decide) (by simp)),h.o10.fr hf h.lt.2.2 (hn 2 p10 (by decide) (by simp)),by rw[List.length_append,kC_app];exact hr,h.sep.set hf.size 4 (obk vl') (fun k hk=>⟨(hr.lt k (mem_obk.1 hk)).2,hv k hk⟩),h.bel.trans (hf.below h.bel.size (fun k hk=>h.ge 4 k hk)),fun i k hk=> ?_⟩
 rcases getD_set_nil [[p5],[p7],[p10],F,obk vl] 4 i (obk vl') (k:=k) hk with ⟨_,h1⟩|⟨_,h1⟩
 ·rcases hv k h1 with h2|h2
  ·exact h.ge 4 k h2
  ·exact Nat.le_trans h.bel.size h2
 ·exact h.ge i k h1
theorem Ps.call (h:Ps w0 w p5 p7 p10 fb F data kn dp g b s d vl ts) (hdp:dp≤5000) {i:Nat} (hi:i≤data.length):Calls Tryz.prog 117 #[.int .i64 (i:Nat),.pointer (some ⟨p7,0,none⟩),.pointer (some ⟨p5,0,none⟩)] w (MatP F fb kn i data w):=
 match_any F fb kn i dp p5 p7 data w h.fd hi h.kn hdp (h.o7.1 0 _ rfl) (h.o5.1 0 _ rfl) ⟨h.lt.1,fun hk=>h.sep.2 0 3 p5 (by decide) (by simp) hk⟩ ⟨h.lt.2.1,fun hk=>h.sep.2 1 3 p7 (by decide) (by simp) hk⟩
end
theorem cf_match (args:Array Value) (w:World):(callFunc 117 args).run Tryz.prog w= .ok (.enter 117 args) w:=by kernel_rfl
theorem std_len {data:List Nat} {a b:Nat} {ts:List Tk.T} (h:Tk.Std data a b ts):a+(ts.map Tk.size).sum=b:=by
 have key: ∀(ts:List Tk.T) (k:List Nat),(Tk.expL k ts).length=k.length+(ts.map Tk.size).sum:=by
  intro ts
  induction ts with
  |nil=>intro k;rfl
  |cons t ts ih=>
   intro k
   show (Tk.expL (Tk.exp k t) ts).length=_
   rw[ih,Tk.exp_len,List.map_cons,List.sum_cons]
   omega
 have h1:=key ts (data.take a)
 rw[h.far,List.length_take,List.length_take,Nat.min_eq_left h.lt,Nat.min_eq_left (Nat.le_trans h.le h.lt)] at h1
 omega
def ParP (data:List Nat) (at0:Nat) (w:World) (e:Ending) (w':World):Prop:= ∃(v:Value) (ts:List Tk.T),e= .returned v∧Row 0 162 3 w' v ts.length (kC ts)∧Tk.Std data at0 data.length ts∧Tk.Rch at0 ts∧Below w.heap.size w w'∧(∀k∈obk v,w.heap.size≤k)
set_option maxHeartbeats 8000000 in
theorem parse_any (data:List Nat) (n B at0 dp g:Nat) (b:Bool) (v:Value) (w:World) (h:Sl w B 1 v n (bC data)) (hB:B≤w.heap.size) (hn:n=data.length) (hl:n≤100000) (hb: ∀x∈data,x<256) (h0:at0≤n) (hdp:dp≤5000) (hg:g≤5000):Calls Tryz.prog 77 #[v,.int .i64 (at0:Nat),.agg #[.int .i64 (dp:Nat),.bool b,.int .i64 (g:Nat)]] w (ParP data at0 w):=by
 have hmf: ∀(fn:Fn) (first cap:Array Value) (w:World),(Instr.makeFunc fn first cap).run Tryz.prog w= .ok (.func fn first cap) w:=fun _ _ _ _=>rfl
 have hcf:=cf_match
 obtain⟨a,cap,rfl,hcap⟩:=h.form
 have HS:=Lib.hid (fun (W:World) (hW:Below w.heap.size w W)=>h.below (hW.mono hB))
 have HN:=Lib.hid hn
 have HBY:=Lib.hid hb
 obtain⟨wa,hwa⟩: ∃z:World,z=w.alloc (.cells #[.int .i64 (dp:Nat),.bool b,.int .i64 (g:Nat)] 158):=⟨_,rfl⟩
 have hba:Below w.heap.size w wa:=by rw[hwa];exact (Below.refl _ _).alloc (Nat.le_refl _) _
 have HBA:=Lib.hid hba
 have HO5:Hid (Own wa w.heap.size [.int .i64 (dp:Nat),.bool b,.int .i64 (g:Nat)]):=Lib.hid (by rw[hwa];exact Own.new_at w _ _ _ rfl)
 have hza:wa.heap.size=w.heap.size+1:=by rw[hwa];simp
 have HNF:=Lib.hid (newf_any data n B (.slice a n cap) wa (h.below (hba.mono hB)) (by omega) hn hl)
 clear h hn hb hba
 go_enter Tryz.func77,Tryz.ntmps77
 go_upto_region 1 with (fail)
 rw[←hwa]
 clear hwa
 obtain⟨p5,hp5⟩: ∃z,w.heap.size=z:=⟨_,rfl⟩
 rw[hp5] at HO5 hza ⊢
 have HP5:=Lib.hid hp5
 go_wp2_with (fail)
 refine HNF.out.mono ?_
 rintro e w1 ⟨fb,F,rfl,hfd,hge,hb1⟩
 have HFD:=Lib.hid hfd
 have HGE:=Lib.hid hge
 have HB1:=Lib.hid (HBA.out.trans (hb1.mono HBA.out.size))
 have HO5b:=Lib.hid (HO5.out.below hb1 (by omega))
 have hz1:=hb1.size
 clear hfd hge hb1 HNF HBA HO5
 obtain⟨w2,hw2⟩: ∃z:World,z=w1.alloc (.cells #[.pointer (some ⟨fb,0,none⟩)] 207):=⟨_,rfl⟩
 go_upto_region 4 with (fail)
 rw[←hw2]
 have HB2:Hid (Below w1.heap.size w1 w2):=Lib.hid (by rw[hw2];exact (Below.refl _ _).alloc (Nat.le_refl _) _)
 have HO7:Hid (Own w2 w1.heap.size [.pointer (some ⟨fb,0,none⟩)]):=Lib.hid (by rw[hw2];exact Own.new_at w1 _ _ _ rfl)
 have hz2:w2.heap.size=w1.heap.size+1:=by rw[hw2];simp
 clear hw2
 obtain⟨p7,hp7⟩: ∃z,w1.heap.size=z:=⟨_,rfl⟩
 have HP7:=Lib.hid hp7
 rw[hp7] at HO7 hz2 hz1 ⊢
 have HFL:=Lib.hid (Fq.lt HFD.out)
 have h0N:at0≤data.length:=by rw[←HN.out];exact h0
 have HMT:=Lib.hid (match_any F fb 0 at0 dp p5 p7 data w2 (Fq.below HFD.out HB2.out) h0N (Nat.zero_le _) hdp (HO7.out.1 0 _ rfl) ((HO5b.out.below HB2.out (by omega)).1 0 _ rfl) ⟨by omega,fun hk=>by have:=HGE.out p5 hk;omega⟩ ⟨by omega,fun hk=>by have:=HFL.out p7 hk;omega⟩)
 clear hp7
 go_wp2_with (fail)
 refine HMT.out.mono ?_
 rintro e w3 ⟨s,d,F1,rfl,hm,hf3,hv3⟩
 obtain⟨w4,hw4⟩: ∃z:World,z=w3.alloc (.cells #[.int .i64 (s:Nat),.int .i64 (d:Nat)] 210):=⟨_,rfl⟩
 have hb4:Below w3.heap.size w3 w4:=by rw[hw4];exact (Below.refl _ _).alloc (Nat.le_refl _) _
 have ho10:Own w4 w3.heap.size [.int .i64 (s:Nat),.int .i64 (d:Nat)]:=by rw[hw4];exact Own.new_at w3 _ _ _ rfl
 have hz4:w4.heap.size=w3.heap.size+1:=by rw[hw4];simp
 have hz3:=hv3.1.size
 have hFl:=Fq.lt hf3
 have hF1ge: ∀k∈F1,w.heap.size+1≤k:=fun k hk=>by
  rcases hv3.2 k hk with h|h
  ·have:=HGE.out k h;have:=HP5.out;omega
  ·have:=HP5.out;omega
 have hF17:p7 ∉ F1:=fun hk=>by
  rcases hv3.2 p7 hk with h|h
  ·have:=HFL.out p7 h;have:=HP7.out;omega
  ·omega
 have HPS:Hid (Ps w w4 p5 p7 w3.heap.size fb F1 data (max 0 (min at0 data.length)) dp g b s d (.slice none 0 0) []):=Lib.hid ⟨Fq.below hf3 hb4,by omega,((HO5b.out.below HB2.out (by have:=HP7.out;omega)).fr hv3.1 (by omega) (fun hk=>by have:=HGE.out p5 hk;omega)).below hb4 (by omega),(HO7.out.fr hv3.1 (by omega) (fun hk=>by have:=HFL.out p7 hk;have:=HP7.out;omega)).below hb4 (by omega),ho10,Row.nil,⟨fun i k hk=>by
   rcases i with _|_|_|_|_|i<;>simp[obk,Value.ownBlock] at hk
   ·omega
   ·omega
   ·omega
   ·have:=hFl k hk;omega,fun i j k hij hk hk2=>by
   rcases i with _|_|_|_|_|i<;>simp[obk,Value.ownBlock] at hk<;>rcases j with _|_|_|_|_|j<;>simp[obk,Value.ownBlock] at hk2<;>first|omega|(subst hk;have:=hF1ge _ hk2;have:=HP5.out;omega)|(subst hk;exact hF17 hk2)|(subst hk2;have:=hF1ge _ hk;have:=HP5.out;omega)|(subst hk2;exact hF17 hk)|(have:=hFl _ hk;omega)|(have:=hFl _ hk2;omega)⟩,(HB1.out.trans (HB2.out.mono HB1.out.size)).trans ((hv3.1.below (B:=w.heap.size) (by have:=HP5.out;omega) (fun k hk=>by have:=HGE.out k hk;have:=HP5.out;omega)).trans (hb4.mono (by have:=HP5.out;omega))),fun i k hk=>by
   rcases i with _|_|_|_|_|i<;>simp[obk,Value.ownBlock] at hk
   ·have:=HP5.out;omega
   ·have:=HP5.out;omega
   ·have:=HP5.out;omega
   ·have:=hF1ge k hk;omega⟩
 have HM0:=Lib.hid hm
 obtain⟨p10,hp10⟩: ∃z,w3.heap.size=z:=⟨_,rfl⟩
 clear hm hf3 hv3 hb4 ho10 hFl hF1ge hF17 HMT HO7 HO5b HB1 HB2 HFD HGE HFL HP7
 go_upto_region 5 with (fail)
 rw[←hw4]
 clear hw4
 rw[hp10] at HPS
 clear hp10 hz1 hz2 hz3 hz4 hza
 go_loopw [1,9] (fun u vl wr=> ∃(at_:Nat) (ts:List Tk.T) (F:List Nat) (kn s d:Nat),u= .int .i64 at_∧at0≤at_∧at_≤n∧Hid (Ps w wr p5 p7 p10 fb F data kn dp g b s d vl ts)∧Hid (Mtch data at_ s d)∧Hid (Tk.Std data at0 at_ ts)∧Hid (Tk.Rch at0 ts)∧ts.length≤at_) (fun u _ _=>n-(intOf u).toNat)
 case atStart=>exact⟨at0,[],F1,_,s,d,rfl,Nat.le_refl _,h0,HPS,HM0,Lib.hid (Tk.Std.nil data h0N),Lib.hid trivial,Nat.zero_le _⟩
 case round=>
  clear HPS HM0
  obtain⟨at_,ts,F,kn,s,d,rfl,ha1,ha2,HP,HM,HST,HRC,htl⟩:=hrel
  obtain⟨wo,rfl⟩: ∃z:World,z=wr:=⟨_,rfl⟩
  by_cases hlt:at_<n
  rotate_left
  ·have c1:decide (at_<n)=false:=decide_eq_false hlt
   have c1':decide ((at_:Int)<(n:Int))=false:=decide_eq_false (by omega)
   obtain rfl:at_=n:=by omega
   go_wp2_with (fail)
   go_ret
   exact⟨_,ts,rfl,HP.out.row,by have:=HST.out;rw[HN.out] at this;exact this,HRC.out,HP.out.bel,fun k hk=>HP.out.ge 4 k hk⟩
  have c1:decide (at_<n)=true:=decide_eq_true hlt
  have c1':decide ((at_:Int)<(n:Int))=true:=decide_eq_true (by omega)
  have hltN:at_<data.length:=by rw[←HN.out];exact hlt
  have k5b:=HP.out.o5.1 1 _ rfl
  have k5g:=HP.out.o5.1 2 _ rfl
  have k10:=HP.out.o10.1 0 _ rfl
  have k11:=HP.out.o10.1 1 _ rfl
  obtain⟨la,lc,rfl,_⟩:=HP.out.row.form
  have hl5:n≤100000:=hl
  by_cases hw:b=true∧3≤s∧s<g
  ·as_aux_lemma=>
   obtain⟨hbt,hs3,hsg⟩:=hw
   subst hbt
   have e1:decide (3≤s)=true:=decide_eq_true hs3
   have e1':decide ((3:Int)≤(s:Int))=true:=decide_eq_true (by omega)
   have e2:decide (s<g)=true:=decide_eq_true hsg
   have e2':decide ((s:Int)<(g:Int))=true:=decide_eq_true (by omega)
   obtain⟨A1,hA1⟩: ∃z,at_+1=z:=⟨_,rfl⟩
   have HA1:=Lib.hid hA1
   have q1:IntKind.i64.wrap ((at_:Int)+1)=((A1:Nat):Int):=by rw[IntWalk.i64_in _ (by omega)];omega
   have HCL:=Lib.hid (HP.out.call hdp (i:=A1) (by omega))
   clear hA1
   go_wp2_with (fail)
   refine HCL.out.mono ?_
   rintro e w3 ⟨s2,d2,F2,rfl,hm2,hf2,hv2⟩
   have hp2:=HP.out.matched hf2 (by have:=HP.out.kn;omega) hv2
   obtain⟨wX,hwX⟩: ∃z:World,z=w3.alloc (.cells #[.int .i64 (s2:Nat),.int .i64 (d2:Nat)] 210):=⟨_,rfl⟩
   have hbX:Below w3.heap.size w3 wX:=by rw[hwX];exact (Below.refl _ _).alloc (Nat.le_refl _) _
   have HO11:Hid (Own wX w3.heap.size [.int .i64 (s2:Nat),.int .i64 (d2:Nat)]):=Lib.hid (by rw[hwX];exact Own.new_at w3 _ _ _ rfl)
   have hzX:wX.heap.size=w3.heap.size+1:=by rw[hwX];simp
   have HVL0:=Lib.hid (fun k hk=>hp2.sep.1 4 k hk)
   have HPN:=Lib.hid (hp2.below hbX)
   have HM2:=Lib.hid hm2
   clear hp2 hm2 hf2 hv2 hbX HCL HP k10 k11 k5b k5g
   have HP:=HPN
   clear HPN
   go_upto_region 8 with (fail)
   rw[←hwX]
   clear hwX
   obtain⟨p11,hp11⟩: ∃z,w3.heap.size=z:=⟨_,rfl⟩
   rw[hp11] at HO11 hzX HVL0
   try rw[hp11]
   have HZX:=Lib.hid hzX
   clear hzX
   have k10:=HP.out.o10.1 0 _ rfl
   have k11:=HP.out.o10.1 1 _ rfl
   have k5b:=HP.out.o5.1 1 _ rfl
   have k5g:=HP.out.o5.1 2 _ rfl
   have k110:=HO11.out.1 0 _ rfl
   by_cases hgt:s<s2
   ·have e4:decide (s<s2)=true:=decide_eq_true hgt
    have e4':decide ((s:Int)<(s2:Int))=true:=decide_eq_true (by omega)
    clear hgt
    obtain⟨x,hx⟩: ∃x,data[at_]? =some x:=⟨_,List.getElem?_eq_getElem hltN⟩
    have hx256:x<256:=HBY.out x (List.mem_of_getElem? hx)
    have hgx:data.getD at_ 0=x:=by rw[List.getD_eq_getElem?_getD,hx];rfl
    obtain⟨bb,off,rfl,_⟩:=sl_cells (HS.out wX HP.out.bel) (by omega)
    have ca:=sl_same (HS.out wX HP.out.bel) (by omega) at_ _ (bC_get hx)
    have hai:(at_:Int)<(n:Int):=by omega
    have hAx:=(Below.refl wX.heap.size wX).alloc (Nat.le_refl _) (.cells #[.int .u8 (x:Nat),.int .i64 0,.int .i64 0] 162)
    have hlt10:=HP.out.lt.2.2
    have j10:=(HP.out.o10.below hAx hlt10).1 0 _ rfl
    have j11:=(HP.out.o10.below hAx hlt10).1 1 _ rfl
    have HX:=Lib.hid hgx
    have HX256:=Lib.hid hx256
    clear hx hgx hAx
    have hA:=(Below.refl wX.heap.size wX).alloc (Nat.le_refl _) (.cells #[.int .u8 (x:Nat),.int .i64 0,.int .i64 0] 162)
    have HPD:=Lib.hid (HP.out.below hA)
    have HO11b:=Lib.hid (HO11.out.below hA (by have:=HZX.out;omega))
    have HSL:Hid (Sl (wX.alloc (.cells #[.int .u8 (x:Nat),.int .i64 0,.int .i64 0] 162)) (wX.heap.size+1) 3 (.slice (some ⟨wX.heap.size,0,none⟩) 1 1) 1 (kC [⟨x,0,0⟩])):=Lib.hid (Sl.new wX 3 1 [.int .u8 (x:Nat),.int .i64 0,.int .i64 0] 162 rfl)
    clear hA
    go_wp2_with (at_builtin;refine append_rowM (base:=0) (size:=3) (xs:=kC ts) Tryz.underlying109 info_tk rfl (by decide) rfl _ _ rfl rfl HPD.out.row rfl HSL.out (kC_one _) ?_ ?_ ?_ ?_;omega;omega;exact Nat.zero_le _)
    intro v6 w6 hr6 hb6 hg6 hw6
    obtain⟨la6,lc6,rfl,_⟩:=hr6.form
    have HP6:=Lib.hid (HPD.out.list (t:=⟨x,0,0⟩) hr6 hg6 (by rcases hw6 with h|h;exact .inl h;exact .inr (fun q hq=>by have:=h q hq;simpa using this)))
    have hf6:=(Fr.refl (obk (Value.slice la ts.length lc)) _).grown hg6 (fun k hk _=>mem_obk.2 hk)
    have HO6:=Lib.hid (HO11b.out.fr hf6 (by simp;have:=HZX.out;omega) (fun hk=>by have:=HVL0.out _ hk;omega))
    clear hr6 hb6 hg6 hw6 hf6 HPD HO11b HSL k10 k11 k5b k5g k110
    have y0:=HO6.out.1 0 _ rfl
    have y1:=HO6.out.1 1 _ rfl
    have m0:=HP6.out.o10.1 0 _ rfl
    have m1:=HP6.out.o10.1 1 _ rfl
    have g0:=HP6.out.o10.2 0
    have g1:=HP6.out.o10.2 1
    go_wp2_with (fail)
    go_roundw
    case rel=>exact⟨A1,ts++[⟨x,0,0⟩],F2,_,s2,d2,rfl,by have:=HA1.out;omega,by have:=HA1.out;omega,Lib.hid (HP6.out.here s2 d2),HM2,Lib.hid (by have:=HST.out.lit HBY.out hltN;rw[HX.out,HA1.out] at this;exact this),Lib.hid (Tk.Rch_app ts [⟨x,0,0⟩] at0 HRC.out ⟨.inl rfl,trivial⟩),by rw[List.length_append,List.length_singleton];have:=HA1.out;omega⟩
    case measure=>simp[intOf]<;>(have:=HA1.out;omega)
   ·have e4:decide (s<s2)=false:=decide_eq_false hgt
    have e4':decide ((s:Int)<(s2:Int))=false:=decide_eq_false (by omega)
    clear hgt
    go_upto_region 12 with (fail)
    obtain⟨x,hx⟩: ∃x,data[at_]? =some x:=⟨_,List.getElem?_eq_getElem hltN⟩
    have hx256:x<256:=HBY.out x (List.mem_of_getElem? hx)
    have hgx:data.getD at_ 0=x:=by rw[List.getD_eq_getElem?_getD,hx];rfl
    obtain⟨bb,off,rfl,_⟩:=sl_cells (HS.out wX HP.out.bel) (by omega)
    have ca:=sl_same (HS.out wX HP.out.bel) (by omega) at_ _ (bC_get hx)
    have hai:(at_:Int)<(n:Int):=by omega
    have hAx:=(Below.refl wX.heap.size wX).alloc (Nat.le_refl _) (.cells #[.int .u8 (x:Nat),.int .i64 0,.int .i64 0] 162)
    have hlt10:=HP.out.lt.2.2
    have j10:=(HP.out.o10.below hAx hlt10).1 0 _ rfl
    have j11:=(HP.out.o10.below hAx hlt10).1 1 _ rfl
    have HX:=Lib.hid hgx
    have HX256:=Lib.hid hx256
    clear hx hgx hAx
    have e3:decide (3≤s)=true:=decide_eq_true hs3
    have e3':decide ((3:Int)≤(s:Int))=true:=decide_eq_true (by omega)
    obtain⟨t1,t2,t3,t4,t5,t6⟩:1≤d∧d≤at_∧d≤32768∧s≤258∧at_+s≤data.length∧ ∀k,k<s→data.getD (at_-d+k) 0=data.getD (at_+k) 0:=by
     rcases HM.out with h|h
     ·omega
     ·exact h
    have HT:=Lib.hid (And.intro t5 t6)
    clear t5 t6
    have hA:=(Below.refl wX.heap.size wX).alloc (Nat.le_refl _) (.cells #[.int .u8 0,.int .i64 (s:Nat),.int .i64 (d:Nat)] 162)
    have hD:=hA.alloc (by simp) (.cells #[.int .u8 0,.int .i64 (s:Nat),.int .i64 (d:Nat)] 162)
    have HPD:=Lib.hid (HP.out.below hD)
    have HO12:Hid (Own ((wX.alloc (.cells #[.int .u8 0,.int .i64 (s:Nat),.int .i64 (d:Nat)] 162)).alloc (.cells #[.int .u8 0,.int .i64 (s:Nat),.int .i64 (d:Nat)] 162)) wX.heap.size [.int .u8 0,.int .i64 (s:Nat),.int .i64 (d:Nat)]):=Lib.hid ((Own.new_at wX [.int .u8 0,.int .i64 (s:Nat),.int .i64 (d:Nat)] 162 _ rfl).below ((Below.refl _ _).alloc (Nat.le_refl _) _) (by simp))
    have HSL:Hid (Sl ((wX.alloc (.cells #[.int .u8 0,.int .i64 (s:Nat),.int .i64 (d:Nat)] 162)).alloc (.cells #[.int .u8 0,.int .i64 (s:Nat),.int .i64 (d:Nat)] 162)) ((wX.alloc (.cells #[.int .u8 0,.int .i64 (s:Nat),.int .i64 (d:Nat)] 162)).heap.size+1) 3 (.slice (some ⟨wX.heap.size+1,0,none⟩) 1 1) 1 (kC [⟨0,s,d⟩])):=Lib.hid (by
     have:=Sl.new (wX.alloc (.cells #[.int .u8 0,.int .i64 (s:Nat),.int .i64 (d:Nat)] 162)) 3 1 [.int .u8 0,.int .i64 (s:Nat),.int .i64 (d:Nat)] 162 rfl
     rw[show (wX.alloc (.cells #[.int .u8 0,.int .i64 (s:Nat),.int .i64 (d:Nat)] 162)).heap.size=wX.heap.size+1 by simp] at this ⊢
     exact this)
    have HVL:=Lib.hid (fun k hk=>HP.out.sep.1 4 k hk)
    clear hA hD
    go_wp2_with (at_builtin;refine append_rowM (base:=0) (size:=3) (xs:=kC ts) Tryz.underlying109 info_tk rfl (by decide) rfl _ _ rfl rfl HPD.out.row rfl HSL.out (kC_one _) ?_ ?_ ?_ ?_;omega;omega;exact Nat.zero_le _)
    intro v6 w6 hr6 hb6 hg6 hw6
    obtain⟨la6,lc6,rfl,_⟩:=hr6.form
    have HP6:=Lib.hid (HPD.out.list (t:=⟨0,s,d⟩) hr6 hg6 (by rcases hw6 with h|h;exact .inl h;exact .inr (fun q hq=>by have:=h q hq;simpa using this)))
    have hf6:=(Fr.refl (obk (Value.slice la ts.length lc)) _).grown hg6 (fun k hk _=>mem_obk.2 hk)
    have HO6:=Lib.hid (HO12.out.fr hf6 (by simp;omega) (fun hk=>by have:=HVL.out _ hk;omega))
    clear hr6 hb6 hg6 hw6 hf6 HPD HO12 HSL HVL k10 k11 k5b k5g
    have y0:=HO6.out.1 0 _ rfl
    have y1:=HO6.out.1 1 _ rfl
    have y2:=HO6.out.1 2 _ rfl
    have HTS:=Lib.hid (tsize_any ⟨0,s,d⟩ (.inr ⟨rfl,hs3,t4,t1,t3⟩) w6)
    have HSTD:Hid (Tk.Std data at0 (at_+s) (ts++[⟨0,s,d⟩])):=Lib.hid (HST.out.mat hs3 t4 t1 t3 t2 HT.out.1 HT.out.2)
    have HRCH:Hid (Tk.Rch at0 (ts++[⟨0,s,d⟩])):=Lib.hid (Tk.Rch_app ts [⟨0,s,d⟩] at0 HRC.out ⟨.inr (by rw[std_len HST.out];exact t2),trivial⟩)
    obtain⟨an,han⟩: ∃z,at_+s=z:=⟨_,rfl⟩
    rw[han] at HSTD
    have hanN:an≤n:=by have:=HSTD.out.lt;rw[HN.out];exact this
    have qa:IntKind.i64.wrap ((at_:Int)+((s:Nat):Int))=((an:Nat):Int):=by rw[IntWalk.i64_in _ (by omega)];omega
    have qa':IntKind.i64.wrap ((at_:Int)+(s:Int))=((an:Nat):Int):=by rw[IntWalk.i64_in _ (by omega)];omega
    have HAN:=Lib.hid han
    clear han
    go_wp2_with (fail)
    refine HTS.out.mono ?_
    rintro e w7 ⟨rfl,hb7⟩
    have HP7:=Lib.hid (HP6.out.below hb7)
    have HCL:=Lib.hid (HP7.out.call hdp (i:=an) (by rw[←HN.out];exact hanN))
    clear hb7 HTS y0 y1 y2 HO6 HP6
    rw[show Tk.size ⟨0,s,d⟩=s from if_neg (by show¬s=0;omega)]
    go_wp2_with (fail)
    refine HCL.out.mono ?_
    rintro e w8 ⟨s2,d2,F2,rfl,hm2,hf2,hv2⟩
    have HP8:=Lib.hid (HP7.out.matched hf2 (by have:=HP7.out.kn;omega) hv2)
    have HM2:=Lib.hid hm2
    clear hm2 hf2 hv2 HCL HP7
    have m0:=HP8.out.o10.1 0 _ rfl
    have m1:=HP8.out.o10.1 1 _ rfl
    have g0:=HP8.out.o10.2 0
    have g1:=HP8.out.o10.2 1
    go_wp2_with (fail)
    go_roundw
    case rel=>exact⟨an,ts++[⟨0,s,d⟩],F2,_,s2,d2,rfl,by have:=HAN.out;omega,hanN,Lib.hid (HP8.out.here s2 d2),HM2,HSTD,HRCH,by rw[List.length_append,List.length_singleton];have:=HAN.out;omega⟩
    case measure=>simp[intOf]<;>(have:=HAN.out;omega)
  ·by_cases hbt:b=true
   ·subst hbt
    by_cases hs3:3≤s
    ·as_aux_lemma=>
     have hsg: ¬s<g:=fun h=>hw ⟨rfl,hs3,h⟩
     have e1:decide (3≤s)=true:=decide_eq_true hs3
     have e1':decide ((3:Int)≤(s:Int))=true:=decide_eq_true (by omega)
     have e2:decide (s<g)=false:=decide_eq_false hsg
     have e2':decide ((s:Int)<(g:Int))=false:=decide_eq_false (by omega)
     clear hw hsg
     go_upto_region 12 with (fail)
     obtain⟨x,hx⟩: ∃x,data[at_]? =some x:=⟨_,List.getElem?_eq_getElem hltN⟩
     have hx256:x<256:=HBY.out x (List.mem_of_getElem? hx)
     have hgx:data.getD at_ 0=x:=by rw[List.getD_eq_getElem?_getD,hx];rfl
     obtain⟨bb,off,rfl,_⟩:=sl_cells (HS.out wo HP.out.bel) (by omega)
     have ca:=sl_same (HS.out wo HP.out.bel) (by omega) at_ _ (bC_get hx)
     have hai:(at_:Int)<(n:Int):=by omega
     have hAx:=(Below.refl wo.heap.size wo).alloc (Nat.le_refl _) (.cells #[.int .u8 (x:Nat),.int .i64 0,.int .i64 0] 162)
     have hlt10:=HP.out.lt.2.2
     have j10:=(HP.out.o10.below hAx hlt10).1 0 _ rfl
     have j11:=(HP.out.o10.below hAx hlt10).1 1 _ rfl
     have HX:=Lib.hid hgx
     have HX256:=Lib.hid hx256
     clear hx hgx hAx
     have e3:decide (3≤s)=true:=decide_eq_true hs3
     have e3':decide ((3:Int)≤(s:Int))=true:=decide_eq_true (by omega)
     obtain⟨t1,t2,t3,t4,t5,t6⟩:1≤d∧d≤at_∧d≤32768∧s≤258∧at_+s≤data.length∧ ∀k,k<s→data.getD (at_-d+k) 0=data.getD (at_+k) 0:=by
      rcases HM.out with h|h
      ·omega
      ·exact h
     have HT:=Lib.hid (And.intro t5 t6)
     clear t5 t6
     have hA:=(Below.refl wo.heap.size wo).alloc (Nat.le_refl _) (.cells #[.int .u8 0,.int .i64 (s:Nat),.int .i64 (d:Nat)] 162)
     have hD:=hA.alloc (by simp) (.cells #[.int .u8 0,.int .i64 (s:Nat),.int .i64 (d:Nat)] 162)
     have HPD:=Lib.hid (HP.out.below hD)
     have HO12:Hid (Own ((wo.alloc (.cells #[.int .u8 0,.int .i64 (s:Nat),.int .i64 (d:Nat)] 162)).alloc (.cells #[.int .u8 0,.int .i64 (s:Nat),.int .i64 (d:Nat)] 162)) wo.heap.size [.int .u8 0,.int .i64 (s:Nat),.int .i64 (d:Nat)]):=Lib.hid ((Own.new_at wo [.int .u8 0,.int .i64 (s:Nat),.int .i64 (d:Nat)] 162 _ rfl).below ((Below.refl _ _).alloc (Nat.le_refl _) _) (by simp))
     have HSL:Hid (Sl ((wo.alloc (.cells #[.int .u8 0,.int .i64 (s:Nat),.int .i64 (d:Nat)] 162)).alloc (.cells #[.int .u8 0,.int .i64 (s:Nat),.int .i64 (d:Nat)] 162)) ((wo.alloc (.cells #[.int .u8 0,.int .i64 (s:Nat),.int .i64 (d:Nat)] 162)).heap.size+1) 3 (.slice (some ⟨wo.heap.size+1,0,none⟩) 1 1) 1 (kC [⟨0,s,d⟩])):=Lib.hid (by
      have:=Sl.new (wo.alloc (.cells #[.int .u8 0,.int .i64 (s:Nat),.int .i64 (d:Nat)] 162)) 3 1 [.int .u8 0,.int .i64 (s:Nat),.int .i64 (d:Nat)] 162 rfl
      rw[show (wo.alloc (.cells #[.int .u8 0,.int .i64 (s:Nat),.int .i64 (d:Nat)] 162)).heap.size=wo.heap.size+1 by simp] at this ⊢
      exact this)
     have HVL:=Lib.hid (fun k hk=>HP.out.sep.1 4 k hk)
     clear hA hD
     go_wp2_with (at_builtin;refine append_rowM (base:=0) (size:=3) (xs:=kC ts) Tryz.underlying109 info_tk rfl (by decide) rfl _ _ rfl rfl HPD.out.row rfl HSL.out (kC_one _) ?_ ?_ ?_ ?_;omega;omega;exact Nat.zero_le _)
     intro v6 w6 hr6 hb6 hg6 hw6
     obtain⟨la6,lc6,rfl,_⟩:=hr6.form
     have HP6:=Lib.hid (HPD.out.list (t:=⟨0,s,d⟩) hr6 hg6 (by rcases hw6 with h|h;exact .inl h;exact .inr (fun q hq=>by have:=h q hq;simpa using this)))
     have hf6:=(Fr.refl (obk (Value.slice la ts.length lc)) _).grown hg6 (fun k hk _=>mem_obk.2 hk)
     have HO6:=Lib.hid (HO12.out.fr hf6 (by simp;omega) (fun hk=>by have:=HVL.out _ hk;omega))
     clear hr6 hb6 hg6 hw6 hf6 HPD HO12 HSL HVL k10 k11 k5b k5g
     have y0:=HO6.out.1 0 _ rfl
     have y1:=HO6.out.1 1 _ rfl
     have y2:=HO6.out.1 2 _ rfl
     have HTS:=Lib.hid (tsize_any ⟨0,s,d⟩ (.inr ⟨rfl,hs3,t4,t1,t3⟩) w6)
     have HSTD:Hid (Tk.Std data at0 (at_+s) (ts++[⟨0,s,d⟩])):=Lib.hid (HST.out.mat hs3 t4 t1 t3 t2 HT.out.1 HT.out.2)
     have HRCH:Hid (Tk.Rch at0 (ts++[⟨0,s,d⟩])):=Lib.hid (Tk.Rch_app ts [⟨0,s,d⟩] at0 HRC.out ⟨.inr (by rw[std_len HST.out];exact t2),trivial⟩)
     obtain⟨an,han⟩: ∃z,at_+s=z:=⟨_,rfl⟩
     rw[han] at HSTD
     have hanN:an≤n:=by have:=HSTD.out.lt;rw[HN.out];exact this
     have qa:IntKind.i64.wrap ((at_:Int)+((s:Nat):Int))=((an:Nat):Int):=by rw[IntWalk.i64_in _ (by omega)];omega
     have qa':IntKind.i64.wrap ((at_:Int)+(s:Int))=((an:Nat):Int):=by rw[IntWalk.i64_in _ (by omega)];omega
     have HAN:=Lib.hid han
     clear han
     go_wp2_with (fail)
     refine HTS.out.mono ?_
     rintro e w7 ⟨rfl,hb7⟩
     have HP7:=Lib.hid (HP6.out.below hb7)
     have HCL:=Lib.hid (HP7.out.call hdp (i:=an) (by rw[←HN.out];exact hanN))
     clear hb7 HTS y0 y1 y2 HO6 HP6
     rw[show Tk.size ⟨0,s,d⟩=s from if_neg (by show¬s=0;omega)]
     go_wp2_with (fail)
     refine HCL.out.mono ?_
     rintro e w8 ⟨s2,d2,F2,rfl,hm2,hf2,hv2⟩
     have HP8:=Lib.hid (HP7.out.matched hf2 (by have:=HP7.out.kn;omega) hv2)
     have HM2:=Lib.hid hm2
     clear hm2 hf2 hv2 HCL HP7
     have m0:=HP8.out.o10.1 0 _ rfl
     have m1:=HP8.out.o10.1 1 _ rfl
     have g0:=HP8.out.o10.2 0
     have g1:=HP8.out.o10.2 1
     go_wp2_with (fail)
     go_roundw
     case rel=>exact⟨an,ts++[⟨0,s,d⟩],F2,_,s2,d2,rfl,by have:=HAN.out;omega,hanN,Lib.hid (HP8.out.here s2 d2),HM2,HSTD,HRCH,by rw[List.length_append,List.length_singleton];have:=HAN.out;omega⟩
     case measure=>simp[intOf]<;>(have:=HAN.out;omega)
    ·as_aux_lemma=>
     have e1:decide (3≤s)=false:=decide_eq_false hs3
     have e1':decide ((3:Int)≤(s:Int))=false:=decide_eq_false (by omega)
     clear hw
     go_upto_region 12 with (fail)
     obtain⟨x,hx⟩: ∃x,data[at_]? =some x:=⟨_,List.getElem?_eq_getElem hltN⟩
     have hx256:x<256:=HBY.out x (List.mem_of_getElem? hx)
     have hgx:data.getD at_ 0=x:=by rw[List.getD_eq_getElem?_getD,hx];rfl
     obtain⟨bb,off,rfl,_⟩:=sl_cells (HS.out wo HP.out.bel) (by omega)
     have ca:=sl_same (HS.out wo HP.out.bel) (by omega) at_ _ (bC_get hx)
     have hai:(at_:Int)<(n:Int):=by omega
     have hAx:=(Below.refl wo.heap.size wo).alloc (Nat.le_refl _) (.cells #[.int .u8 (x:Nat),.int .i64 0,.int .i64 0] 162)
     have hlt10:=HP.out.lt.2.2
     have j10:=(HP.out.o10.below hAx hlt10).1 0 _ rfl
     have j11:=(HP.out.o10.below hAx hlt10).1 1 _ rfl
     have HX:=Lib.hid hgx
     have HX256:=Lib.hid hx256
     clear hx hgx hAx
     have e3:decide (3≤s)=false:=decide_eq_false hs3
     have e3':decide ((3:Int)≤(s:Int))=false:=decide_eq_false (by omega)
     have hA:=(Below.refl wo.heap.size wo).alloc (Nat.le_refl _) (.cells #[.int .u8 (x:Nat),.int .i64 0,.int .i64 0] 162)
     have hD:=hA.alloc (by simp) (.cells #[.int .u8 (x:Nat),.int .i64 0,.int .i64 0] 162)
     have HPD:=Lib.hid (HP.out.below hD)
     have HO12:Hid (Own ((wo.alloc (.cells #[.int .u8 (x:Nat),.int .i64 0,.int .i64 0] 162)).alloc (.cells #[.int .u8 (x:Nat),.int .i64 0,.int .i64 0] 162)) wo.heap.size [.int .u8 (x:Nat),.int .i64 0,.int .i64 0]):=Lib.hid ((Own.new_at wo [.int .u8 (x:Nat),.int .i64 0,.int .i64 0] 162 _ rfl).below ((Below.refl _ _).alloc (Nat.le_refl _) _) (by simp))
     have HSL:Hid (Sl ((wo.alloc (.cells #[.int .u8 (x:Nat),.int .i64 0,.int .i64 0] 162)).alloc (.cells #[.int .u8 (x:Nat),.int .i64 0,.int .i64 0] 162)) ((wo.alloc (.cells #[.int .u8 (x:Nat),.int .i64 0,.int .i64 0] 162)).heap.size+1) 3 (.slice (some ⟨wo.heap.size+1,0,none⟩) 1 1) 1 (kC [⟨x,0,0⟩])):=Lib.hid (by
      have:=Sl.new (wo.alloc (.cells #[.int .u8 (x:Nat),.int .i64 0,.int .i64 0] 162)) 3 1 [.int .u8 (x:Nat),.int .i64 0,.int .i64 0] 162 rfl
      rw[show (wo.alloc (.cells #[.int .u8 (x:Nat),.int .i64 0,.int .i64 0] 162)).heap.size=wo.heap.size+1 by simp] at this ⊢
      exact this)
     have HVL:=Lib.hid (fun k hk=>HP.out.sep.1 4 k hk)
     clear hA hD
     go_wp2_with (at_builtin;refine append_rowM (base:=0) (size:=3) (xs:=kC ts) Tryz.underlying109 info_tk rfl (by decide) rfl _ _ rfl rfl HPD.out.row rfl HSL.out (kC_one _) ?_ ?_ ?_ ?_;omega;omega;exact Nat.zero_le _)
     intro v6 w6 hr6 hb6 hg6 hw6
     obtain⟨la6,lc6,rfl,_⟩:=hr6.form
     have HP6:=Lib.hid (HPD.out.list (t:=⟨x,0,0⟩) hr6 hg6 (by rcases hw6 with h|h;exact .inl h;exact .inr (fun q hq=>by have:=h q hq;simpa using this)))
     have hf6:=(Fr.refl (obk (Value.slice la ts.length lc)) _).grown hg6 (fun k hk _=>mem_obk.2 hk)
     have HO6:=Lib.hid (HO12.out.fr hf6 (by simp;omega) (fun hk=>by have:=HVL.out _ hk;omega))
     clear hr6 hb6 hg6 hw6 hf6 HPD HO12 HSL HVL k10 k11 k5b k5g
     have y0:=HO6.out.1 0 _ rfl
     have y1:=HO6.out.1 1 _ rfl
     have y2:=HO6.out.1 2 _ rfl
     have HTS:=Lib.hid (tsize_any ⟨x,0,0⟩ (.inl ⟨rfl,rfl,HX256.out⟩) w6)
     have HSTD:Hid (Tk.Std data at0 (at_+1) (ts++[⟨x,0,0⟩])):=Lib.hid (by have:=HST.out.lit HBY.out hltN;rw[HX.out] at this;exact this)
     have HRCH:Hid (Tk.Rch at0 (ts++[⟨x,0,0⟩])):=Lib.hid (Tk.Rch_app ts [⟨x,0,0⟩] at0 HRC.out ⟨.inl rfl,trivial⟩)
     obtain⟨an,han⟩: ∃z,at_+1=z:=⟨_,rfl⟩
     rw[han] at HSTD
     have hanN:an≤n:=by have:=HSTD.out.lt;rw[HN.out];exact this
     have qa:IntKind.i64.wrap ((at_:Int)+((1:Nat):Int))=((an:Nat):Int):=by rw[IntWalk.i64_in _ (by omega)];omega
     have qa':IntKind.i64.wrap ((at_:Int)+1)=((an:Nat):Int):=by rw[IntWalk.i64_in _ (by omega)];omega
     have HAN:=Lib.hid han
     clear han
     go_wp2_with (fail)
     refine HTS.out.mono ?_
     rintro e w7 ⟨rfl,hb7⟩
     have HP7:=Lib.hid (HP6.out.below hb7)
     have HCL:=Lib.hid (HP7.out.call hdp (i:=an) (by rw[←HN.out];exact hanN))
     clear hb7 HTS y0 y1 y2 HO6 HP6
     rw[show Tk.size ⟨x,0,0⟩=1 from rfl]
     go_wp2_with (fail)
     refine HCL.out.mono ?_
     rintro e w8 ⟨s2,d2,F2,rfl,hm2,hf2,hv2⟩
     have HP8:=Lib.hid (HP7.out.matched hf2 (by have:=HP7.out.kn;omega) hv2)
     have HM2:=Lib.hid hm2
     clear hm2 hf2 hv2 HCL HP7
     have m0:=HP8.out.o10.1 0 _ rfl
     have m1:=HP8.out.o10.1 1 _ rfl
     have g0:=HP8.out.o10.2 0
     have g1:=HP8.out.o10.2 1
     go_wp2_with (fail)
     go_roundw
     case rel=>exact⟨an,ts++[⟨x,0,0⟩],F2,_,s2,d2,rfl,by have:=HAN.out;omega,hanN,Lib.hid (HP8.out.here s2 d2),HM2,HSTD,HRCH,by rw[List.length_append,List.length_singleton];have:=HAN.out;omega⟩
     case measure=>simp[intOf]<;>(have:=HAN.out;omega)
   ·obtain rfl:b=false:=by cases b;rfl;exact absurd rfl hbt
    clear hw hbt
    by_cases hs3:3≤s
    ·as_aux_lemma=>
     go_upto_region 12 with (fail)
     obtain⟨x,hx⟩: ∃x,data[at_]? =some x:=⟨_,List.getElem?_eq_getElem hltN⟩
     have hx256:x<256:=HBY.out x (List.mem_of_getElem? hx)
     have hgx:data.getD at_ 0=x:=by rw[List.getD_eq_getElem?_getD,hx];rfl
     obtain⟨bb,off,rfl,_⟩:=sl_cells (HS.out wo HP.out.bel) (by omega)
     have ca:=sl_same (HS.out wo HP.out.bel) (by omega) at_ _ (bC_get hx)
     have hai:(at_:Int)<(n:Int):=by omega
     have hAx:=(Below.refl wo.heap.size wo).alloc (Nat.le_refl _) (.cells #[.int .u8 (x:Nat),.int .i64 0,.int .i64 0] 162)
     have hlt10:=HP.out.lt.2.2
     have j10:=(HP.out.o10.below hAx hlt10).1 0 _ rfl
     have j11:=(HP.out.o10.below hAx hlt10).1 1 _ rfl
     have HX:=Lib.hid hgx
     have HX256:=Lib.hid hx256
     clear hx hgx hAx
     have e3:decide (3≤s)=true:=decide_eq_true hs3
     have e3':decide ((3:Int)≤(s:Int))=true:=decide_eq_true (by omega)
     obtain⟨t1,t2,t3,t4,t5,t6⟩:1≤d∧d≤at_∧d≤32768∧s≤258∧at_+s≤data.length∧ ∀k,k<s→data.getD (at_-d+k) 0=data.getD (at_+k) 0:=by
      rcases HM.out with h|h
      ·omega
      ·exact h
     have HT:=Lib.hid (And.intro t5 t6)
     clear t5 t6
     have hA:=(Below.refl wo.heap.size wo).alloc (Nat.le_refl _) (.cells #[.int .u8 0,.int .i64 (s:Nat),.int .i64 (d:Nat)] 162)
     have hD:=hA.alloc (by simp) (.cells #[.int .u8 0,.int .i64 (s:Nat),.int .i64 (d:Nat)] 162)
     have HPD:=Lib.hid (HP.out.below hD)
     have HO12:Hid (Own ((wo.alloc (.cells #[.int .u8 0,.int .i64 (s:Nat),.int .i64 (d:Nat)] 162)).alloc (.cells #[.int .u8 0,.int .i64 (s:Nat),.int .i64 (d:Nat)] 162)) wo.heap.size [.int .u8 0,.int .i64 (s:Nat),.int .i64 (d:Nat)]):=Lib.hid ((Own.new_at wo [.int .u8 0,.int .i64 (s:Nat),.int .i64 (d:Nat)] 162 _ rfl).below ((Below.refl _ _).alloc (Nat.le_refl _) _) (by simp))
     have HSL:Hid (Sl ((wo.alloc (.cells #[.int .u8 0,.int .i64 (s:Nat),.int .i64 (d:Nat)] 162)).alloc (.cells #[.int .u8 0,.int .i64 (s:Nat),.int .i64 (d:Nat)] 162)) ((wo.alloc (.cells #[.int .u8 0,.int .i64 (s:Nat),.int .i64 (d:Nat)] 162)).heap.size+1) 3 (.slice (some ⟨wo.heap.size+1,0,none⟩) 1 1) 1 (kC [⟨0,s,d⟩])):=Lib.hid (by
      have:=Sl.new (wo.alloc (.cells #[.int .u8 0,.int .i64 (s:Nat),.int .i64 (d:Nat)] 162)) 3 1 [.int .u8 0,.int .i64 (s:Nat),.int .i64 (d:Nat)] 162 rfl
      rw[show (wo.alloc (.cells #[.int .u8 0,.int .i64 (s:Nat),.int .i64 (d:Nat)] 162)).heap.size=wo.heap.size+1 by simp] at this ⊢
      exact this)
     have HVL:=Lib.hid (fun k hk=>HP.out.sep.1 4 k hk)
     clear hA hD
     go_wp2_with (at_builtin;refine append_rowM (base:=0) (size:=3) (xs:=kC ts) Tryz.underlying109 info_tk rfl (by decide) rfl _ _ rfl rfl HPD.out.row rfl HSL.out (kC_one _) ?_ ?_ ?_ ?_;omega;omega;exact Nat.zero_le _)
     intro v6 w6 hr6 hb6 hg6 hw6
     obtain⟨la6,lc6,rfl,_⟩:=hr6.form
     have HP6:=Lib.hid (HPD.out.list (t:=⟨0,s,d⟩) hr6 hg6 (by rcases hw6 with h|h;exact .inl h;exact .inr (fun q hq=>by have:=h q hq;simpa using this)))
     have hf6:=(Fr.refl (obk (Value.slice la ts.length lc)) _).grown hg6 (fun k hk _=>mem_obk.2 hk)
     have HO6:=Lib.hid (HO12.out.fr hf6 (by simp;omega) (fun hk=>by have:=HVL.out _ hk;omega))
     clear hr6 hb6 hg6 hw6 hf6 HPD HO12 HSL HVL k10 k11 k5b k5g
     have y0:=HO6.out.1 0 _ rfl
     have y1:=HO6.out.1 1 _ rfl
     have y2:=HO6.out.1 2 _ rfl
     have HTS:=Lib.hid (tsize_any ⟨0,s,d⟩ (.inr ⟨rfl,hs3,t4,t1,t3⟩) w6)
     have HSTD:Hid (Tk.Std data at0 (at_+s) (ts++[⟨0,s,d⟩])):=Lib.hid (HST.out.mat hs3 t4 t1 t3 t2 HT.out.1 HT.out.2)
     have HRCH:Hid (Tk.Rch at0 (ts++[⟨0,s,d⟩])):=Lib.hid (Tk.Rch_app ts [⟨0,s,d⟩] at0 HRC.out ⟨.inr (by rw[std_len HST.out];exact t2),trivial⟩)
     obtain⟨an,han⟩: ∃z,at_+s=z:=⟨_,rfl⟩
     rw[han] at HSTD
     have hanN:an≤n:=by have:=HSTD.out.lt;rw[HN.out];exact this
     have qa:IntKind.i64.wrap ((at_:Int)+((s:Nat):Int))=((an:Nat):Int):=by rw[IntWalk.i64_in _ (by omega)];omega
     have qa':IntKind.i64.wrap ((at_:Int)+(s:Int))=((an:Nat):Int):=by rw[IntWalk.i64_in _ (by omega)];omega
     have HAN:=Lib.hid han
     clear han
     go_wp2_with (fail)
     refine HTS.out.mono ?_
     rintro e w7 ⟨rfl,hb7⟩
     have HP7:=Lib.hid (HP6.out.below hb7)
     have HCL:=Lib.hid (HP7.out.call hdp (i:=an) (by rw[←HN.out];exact hanN))
     clear hb7 HTS y0 y1 y2 HO6 HP6
     rw[show Tk.size ⟨0,s,d⟩=s from if_neg (by show¬s=0;omega)]
     go_wp2_with (fail)
     refine HCL.out.mono ?_
     rintro e w8 ⟨s2,d2,F2,rfl,hm2,hf2,hv2⟩
     have HP8:=Lib.hid (HP7.out.matched hf2 (by have:=HP7.out.kn;omega) hv2)
     have HM2:=Lib.hid hm2
     clear hm2 hf2 hv2 HCL HP7
     have m0:=HP8.out.o10.1 0 _ rfl
     have m1:=HP8.out.o10.1 1 _ rfl
     have g0:=HP8.out.o10.2 0
     have g1:=HP8.out.o10.2 1
     go_wp2_with (fail)
     go_roundw
     case rel=>exact⟨an,ts++[⟨0,s,d⟩],F2,_,s2,d2,rfl,by have:=HAN.out;omega,hanN,Lib.hid (HP8.out.here s2 d2),HM2,HSTD,HRCH,by rw[List.length_append,List.length_singleton];have:=HAN.out;omega⟩
     case measure=>simp[intOf]<;>(have:=HAN.out;omega)
    ·as_aux_lemma=>
     go_upto_region 12 with (fail)
     obtain⟨x,hx⟩: ∃x,data[at_]? =some x:=⟨_,List.getElem?_eq_getElem hltN⟩
     have hx256:x<256:=HBY.out x (List.mem_of_getElem? hx)
     have hgx:data.getD at_ 0=x:=by rw[List.getD_eq_getElem?_getD,hx];rfl
     obtain⟨bb,off,rfl,_⟩:=sl_cells (HS.out wo HP.out.bel) (by omega)
     have ca:=sl_same (HS.out wo HP.out.bel) (by omega) at_ _ (bC_get hx)
     have hai:(at_:Int)<(n:Int):=by omega
     have hAx:=(Below.refl wo.heap.size wo).alloc (Nat.le_refl _) (.cells #[.int .u8 (x:Nat),.int .i64 0,.int .i64 0] 162)
     have hlt10:=HP.out.lt.2.2
     have j10:=(HP.out.o10.below hAx hlt10).1 0 _ rfl
     have j11:=(HP.out.o10.below hAx hlt10).1 1 _ rfl
     have HX:=Lib.hid hgx
     have HX256:=Lib.hid hx256
     clear hx hgx hAx
     have e3:decide (3≤s)=false:=decide_eq_false hs3
     have e3':decide ((3:Int)≤(s:Int))=false:=decide_eq_false (by omega)
     have hA:=(Below.refl wo.heap.size wo).alloc (Nat.le_refl _) (.cells #[.int .u8 (x:Nat),.int .i64 0,.int .i64 0] 162)
     have hD:=hA.alloc (by simp) (.cells #[.int .u8 (x:Nat),.int .i64 0,.int .i64 0] 162)
     have HPD:=Lib.hid (HP.out.below hD)
     have HO12:Hid (Own ((wo.alloc (.cells #[.int .u8 (x:Nat),.int .i64 0,.int .i64 0] 162)).alloc (.cells #[.int .u8 (x:Nat),.int .i64 0,.int .i64 0] 162)) wo.heap.size [.int .u8 (x:Nat),.int .i64 0,.int .i64 0]):=Lib.hid ((Own.new_at wo [.int .u8 (x:Nat),.int .i64 0,.int .i64 0] 162 _ rfl).below ((Below.refl _ _).alloc (Nat.le_refl _) _) (by simp))
     have HSL:Hid (Sl ((wo.alloc (.cells #[.int .u8 (x:Nat),.int .i64 0,.int .i64 0] 162)).alloc (.cells #[.int .u8 (x:Nat),.int .i64 0,.int .i64 0] 162)) ((wo.alloc (.cells #[.int .u8 (x:Nat),.int .i64 0,.int .i64 0] 162)).heap.size+1) 3 (.slice (some ⟨wo.heap.size+1,0,none⟩) 1 1) 1 (kC [⟨x,0,0⟩])):=Lib.hid (by
      have:=Sl.new (wo.alloc (.cells #[.int .u8 (x:Nat),.int .i64 0,.int .i64 0] 162)) 3 1 [.int .u8 (x:Nat),.int .i64 0,.int .i64 0] 162 rfl
      rw[show (wo.alloc (.cells #[.int .u8 (x:Nat),.int .i64 0,.int .i64 0] 162)).heap.size=wo.heap.size+1 by simp] at this ⊢
      exact this)
     have HVL:=Lib.hid (fun k hk=>HP.out.sep.1 4 k hk)
     clear hA hD
     go_wp2_with (at_builtin;refine append_rowM (base:=0) (size:=3) (xs:=kC ts) Tryz.underlying109 info_tk rfl (by decide) rfl _ _ rfl rfl HPD.out.row rfl HSL.out (kC_one _) ?_ ?_ ?_ ?_;omega;omega;exact Nat.zero_le _)
     intro v6 w6 hr6 hb6 hg6 hw6
     obtain⟨la6,lc6,rfl,_⟩:=hr6.form
     have HP6:=Lib.hid (HPD.out.list (t:=⟨x,0,0⟩) hr6 hg6 (by rcases hw6 with h|h;exact .inl h;exact .inr (fun q hq=>by have:=h q hq;simpa using this)))
     have hf6:=(Fr.refl (obk (Value.slice la ts.length lc)) _).grown hg6 (fun k hk _=>mem_obk.2 hk)
     have HO6:=Lib.hid (HO12.out.fr hf6 (by simp;omega) (fun hk=>by have:=HVL.out _ hk;omega))
     clear hr6 hb6 hg6 hw6 hf6 HPD HO12 HSL HVL k10 k11 k5b k5g
     have y0:=HO6.out.1 0 _ rfl
     have y1:=HO6.out.1 1 _ rfl
     have y2:=HO6.out.1 2 _ rfl
     have HTS:=Lib.hid (tsize_any ⟨x,0,0⟩ (.inl ⟨rfl,rfl,HX256.out⟩) w6)
     have HSTD:Hid (Tk.Std data at0 (at_+1) (ts++[⟨x,0,0⟩])):=Lib.hid (by have:=HST.out.lit HBY.out hltN;rw[HX.out] at this;exact this)
     have HRCH:Hid (Tk.Rch at0 (ts++[⟨x,0,0⟩])):=Lib.hid (Tk.Rch_app ts [⟨x,0,0⟩] at0 HRC.out ⟨.inl rfl,trivial⟩)
     obtain⟨an,han⟩: ∃z,at_+1=z:=⟨_,rfl⟩
     rw[han] at HSTD
     have hanN:an≤n:=by have:=HSTD.out.lt;rw[HN.out];exact this
     have qa:IntKind.i64.wrap ((at_:Int)+((1:Nat):Int))=((an:Nat):Int):=by rw[IntWalk.i64_in _ (by omega)];omega
     have qa':IntKind.i64.wrap ((at_:Int)+1)=((an:Nat):Int):=by rw[IntWalk.i64_in _ (by omega)];omega
     have HAN:=Lib.hid han
     clear han
     go_wp2_with (fail)
     refine HTS.out.mono ?_
     rintro e w7 ⟨rfl,hb7⟩
     have HP7:=Lib.hid (HP6.out.below hb7)
     have HCL:=Lib.hid (HP7.out.call hdp (i:=an) (by rw[←HN.out];exact hanN))
     clear hb7 HTS y0 y1 y2 HO6 HP6
     rw[show Tk.size ⟨x,0,0⟩=1 from rfl]
     go_wp2_with (fail)
     refine HCL.out.mono ?_
     rintro e w8 ⟨s2,d2,F2,rfl,hm2,hf2,hv2⟩
     have HP8:=Lib.hid (HP7.out.matched hf2 (by have:=HP7.out.kn;omega) hv2)
     have HM2:=Lib.hid hm2
     clear hm2 hf2 hv2 HCL HP7
     have m0:=HP8.out.o10.1 0 _ rfl
     have m1:=HP8.out.o10.1 1 _ rfl
     have g0:=HP8.out.o10.2 0
     have g1:=HP8.out.o10.2 1
     go_wp2_with (fail)
     go_roundw
     case rel=>exact⟨an,ts++[⟨x,0,0⟩],F2,_,s2,d2,rfl,by have:=HAN.out;omega,hanN,Lib.hid (HP8.out.here s2 d2),HM2,HSTD,HRCH,by rw[List.length_append,List.length_singleton];have:=HAN.out;omega⟩
     case measure=>simp[intOf]<;>(have:=HAN.out;omega)
end Go.Proofs.YtmdgeoalamancaaGreatDoor
