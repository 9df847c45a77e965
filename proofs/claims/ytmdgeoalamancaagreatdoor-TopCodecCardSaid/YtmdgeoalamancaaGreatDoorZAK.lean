/- The machine in memory. The machine: its small functions. The machine: blocks begin. The machine: stored blocks. -/
import Derived.Test.YtmdgeoalamancaaGreatDoorZAJ
set_option maxRecDepth 100000
set_option linter.unusedVariables false
set_option linter.unusedSimpArgs false
namespace Go.Proofs.YtmdgeoalamancaaGreatDoor
open Go.RowKit
open Bt Can Mc
def Sep (L:List (List Nat)) (n:Nat):Prop:=(∀i k,k∈L.getD i []→k<n)∧ ∀i j k,i≠j→k∈L.getD i []→k ∉ L.getD j []
theorem getD_set_nil (L:List (List Nat)) (i j:Nat) (F:List Nat) {k:Nat} (h:k∈(L.set i F).getD j []):(i=j∧k∈F)∨(i≠j∧k∈L.getD j []):=by
 rw[List.getD_eq_getElem?_getD] at h
 by_cases e:i=j
 ·subst e
  by_cases hl:i<L.length
  ·rw[List.getElem?_set_self hl] at h
   exact .inl ⟨rfl,h⟩
  ·rw[List.getElem?_eq_none (by rw[List.length_set];omega)] at h
   simp at h
 ·rw[List.getElem?_set_ne e] at h
  exact .inr ⟨e,by rw[List.getD_eq_getElem?_getD];exact h⟩
theorem Sep.set {L:List (List Nat)} {n m:Nat} (h:Sep L n) (hm:n≤m) (i:Nat) (F:List Nat) (hF: ∀k∈F,k<m∧(k∈L.getD i []∨n≤k)):Sep (L.set i F) m:=by
 refine⟨fun j k hk=> ?_,fun a b k hab hk hk2=> ?_⟩
 ·rcases getD_set_nil L i j F hk with ⟨_,h1⟩|⟨_,h1⟩
  ·exact (hF k h1).1
  ·exact Nat.lt_of_lt_of_le (h.1 j k h1) hm
 ·rcases getD_set_nil L i a F hk with ⟨e1,h1⟩|⟨e1,h1⟩<;>rcases getD_set_nil L i b F hk2 with ⟨e2,h2⟩|⟨e2,h2⟩
  ·omega
  ·subst e1
   rcases (hF k h1).2 with h3|h3
   ·exact h.2 i b k hab h3 h2
   ·have:=h.1 b k h2;omega
  ·subst e2
   rcases (hF k h2).2 with h3|h3
   ·exact h.2 a i k hab h1 h3
   ·have:=h.1 a k h1;omega
  ·exact h.2 a b k hab h1 h2
theorem Sep.up {L:List (List Nat)} {n m:Nat} (h:Sep L n) (hm:n≤m):Sep L m:=⟨fun i k hk=>Nat.lt_of_lt_of_le (h.1 i k hk) hm,h.2⟩
def Mv (F:List Nat) (w:World) (F':List Nat) (w':World):Prop:=Fr F w w'∧New F F' w.heap.size
theorem Mv.refl (F:List Nat) (w:World):Mv F w F w:=⟨Fr.refl _ _,New.refl _ _⟩
theorem Mv.trans {F F1 F2:List Nat} {w w1 w2:World} (h:Mv F w F1 w1) (k:Mv F1 w1 F2 w2):Mv F w F2 w2:=
 ⟨h.1.trans k.1 (fun x hx hlt=>by rcases h.2 x hx with h1|h1;exact h1;omega),h.2.trans k.2 h.1.size⟩
theorem Mv.below (F:List Nat) {w w':World} (h:Below w.heap.size w w'):Mv F w F w':=⟨Fr.of_below h,New.refl _ _⟩
theorem Mv.sub {F G F':List Nat} {w w':World} (h:Fr G w w') (hG: ∀k∈G,k∈F) (hN:New F F' w.heap.size):Mv F w F' w':=⟨h.weak (fun x hx _=>hG x hx),hN⟩
structure Qv where
 stage:Value
 left:Value
 hl:Value
 hd:Value
 many:Value
 told:Value
 sh:Value
 tbl:Value
 lens:Value
 lits:Value
 dists:Value
 sym:Value
 size:Value
def mcs (rb wb:Nat) (vo:Value) (fin:Bool) (q:Qv):List Value:=[.int .i64 1048576,.pointer (some ⟨rb,0,none⟩),.pointer (some ⟨wb,0,none⟩),vo,.int .i64 0,q.stage,.bool fin,q.left,q.hl,q.hd,q.many,q.told,q.sh,q.tbl,q.lens,q.lits,q.dists,q.sym,q.size]
def Stt (w:World) (S:List Nat) (q:Qv):St→Prop
 | .block=>q.stage= .int .i64 0
 | .size=>q.stage= .int .i64 1
 | .bytes left=>q.stage= .int .i64 2∧q.left= .int .i64 (left:Nat)
 | .counts=>q.stage= .int .i64 3
 | .short nl nd many told sh=>q.stage= .int .i64 4∧q.hl= .int .i64 (nl:Nat)∧q.hd= .int .i64 (nd:Nat)∧q.many= .int .i64 (many:Nat)∧q.told= .int .i64 (told:Nat)∧q.lens= .slice none 0 0∧Row 0 3 1 w q.sh 19 (iC sh)∧sh.length=19∧(∀k∈obk q.sh,k∈S)∧told≤19∧nl≤286∧nd≤30∧many≤19
 | .run nl nd tb ls=>q.stage= .int .i64 5∧q.hl= .int .i64 (nl:Nat)∧q.hd= .int .i64 (nd:Nat)∧(∃t F,q.tbl= .pointer (some ⟨t,0,none⟩)∧Tb F w t tb∧ ∀k∈F++obk q.lens,k∈S)∧Row 0 3 1 w q.lens ls.length (iC ls)∧ls.length≤316∧nl≤286∧nd≤30
 | .runX nl nd tb ls s=>q.stage= .int .i64 6∧q.hl= .int .i64 (nl:Nat)∧q.hd= .int .i64 (nd:Nat)∧(∃t F,q.tbl= .pointer (some ⟨t,0,none⟩)∧Tb F w t tb∧ ∀k∈F++obk q.lens,k∈S)∧Row 0 3 1 w q.lens ls.length (iC ls)∧ls.length≤316∧nl≤286∧nd≤30∧q.sym= .int .i64 (s:Nat)
 | .sym L D=>q.stage= .int .i64 7∧ ∃t1 F1 t2 F2,q.lits= .pointer (some ⟨t1,0,none⟩)∧q.dists= .pointer (some ⟨t2,0,none⟩)∧Tb F1 w t1 L∧Tb F2 w t2 D∧ ∀k∈F1++F2,k∈S
 | .lenX L D s=>q.stage= .int .i64 8∧q.sym= .int .i64 (s:Nat)∧ ∃t1 F1 t2 F2,q.lits= .pointer (some ⟨t1,0,none⟩)∧q.dists= .pointer (some ⟨t2,0,none⟩)∧Tb F1 w t1 L∧Tb F2 w t2 D∧ ∀k∈F1++F2,k∈S
 | .dist L D n=>q.stage= .int .i64 9∧q.size= .int .i64 (n:Nat)∧n≤300∧ ∃t1 F1 t2 F2,q.lits= .pointer (some ⟨t1,0,none⟩)∧q.dists= .pointer (some ⟨t2,0,none⟩)∧Tb F1 w t1 L∧Tb F2 w t2 D∧ ∀k∈F1++F2,k∈S
 | .distX L D n s=>q.stage= .int .i64 10∧q.size= .int .i64 (n:Nat)∧n≤300∧q.sym= .int .i64 (s:Nat)∧ ∃t1 F1 t2 F2,q.lits= .pointer (some ⟨t1,0,none⟩)∧q.dists= .pointer (some ⟨t2,0,none⟩)∧Tb F1 w t1 L∧Tb F2 w t2 D∧ ∀k∈F1++F2,k∈S
 | .ended=>q.stage= .int .i64 11
section
variable {w w':World} {S:List Nat} {q:Qv}
theorem Stt.fr {G:List Nat} {st:St} (h:Stt w S q st) (hf:Fr G w w') (hd: ∀k∈S,k ∉ G):Stt w' S q st:=by
 cases st with
 |short nl nd many told sh=>
  obtain⟨h1,h2,h3,h4,h5,h6,h7,h8,h9,h10⟩:=h
  exact⟨h1,h2,h3,h4,h5,h6,h7.fr hf (fun k hk=>hd k (h9 k hk)),h8,h9,h10⟩
 |run nl nd tb ls=>
  obtain⟨h1,h2,h3,⟨t,F,h4,h5,h6⟩,h7,h8⟩:=h
  exact⟨h1,h2,h3,⟨t,F,h4,h5.fr hf (fun k hk=>hd k (h6 k (by simp[hk]))),h6⟩,h7.fr hf (fun k hk=>hd k (h6 k (by simp[hk]))),h8⟩
 |runX nl nd tb ls s=>
  obtain⟨h1,h2,h3,⟨t,F,h4,h5,h6⟩,h7,h8⟩:=h
  exact⟨h1,h2,h3,⟨t,F,h4,h5.fr hf (fun k hk=>hd k (h6 k (by simp[hk]))),h6⟩,h7.fr hf (fun k hk=>hd k (h6 k (by simp[hk]))),h8⟩
 |sym L D=>
  obtain⟨h1,t1,F1,t2,F2,h2,h3,h4,h5,h6⟩:=h
  exact⟨h1,t1,F1,t2,F2,h2,h3,h4.fr hf (fun k hk=>hd k (h6 k (by simp[hk]))),h5.fr hf (fun k hk=>hd k (h6 k (by simp[hk]))),h6⟩
 |lenX L D s=>
  obtain⟨h0,h1,t1,F1,t2,F2,h2,h3,h4,h5,h6⟩:=h
  exact⟨h0,h1,t1,F1,t2,F2,h2,h3,h4.fr hf (fun k hk=>hd k (h6 k (by simp[hk]))),h5.fr hf (fun k hk=>hd k (h6 k (by simp[hk]))),h6⟩
 |dist L D n=>
  obtain⟨h0,h1,h1',t1,F1,t2,F2,h2,h3,h4,h5,h6⟩:=h
  exact⟨h0,h1,h1',t1,F1,t2,F2,h2,h3,h4.fr hf (fun k hk=>hd k (h6 k (by simp[hk]))),h5.fr hf (fun k hk=>hd k (h6 k (by simp[hk]))),h6⟩
 |distX L D n s=>
  obtain⟨h0,h1,h1',h1'',t1,F1,t2,F2,h2,h3,h4,h5,h6⟩:=h
  exact⟨h0,h1,h1',h1'',t1,F1,t2,F2,h2,h3,h4.fr hf (fun k hk=>hd k (h6 k (by simp[hk]))),h5.fr hf (fun k hk=>hd k (h6 k (by simp[hk]))),h6⟩
 |block=>exact h
 |size=>exact h
 |bytes _=>exact h
 |counts=>exact h
 |ended=>exact h
end
theorem Stt.more {w:World} {S S':List Nat} {q:Qv} {st:St} (h:Stt w S q st) (hs: ∀k∈S,k∈S'):Stt w S' q st:=by
 cases st with
 |short nl nd many told sh=>
  obtain⟨h1,h2,h3,h4,h5,h6,h7,h8,h9,h10⟩:=h
  exact⟨h1,h2,h3,h4,h5,h6,h7,h8,fun k hk=>hs k (h9 k hk),h10⟩
 |run nl nd tb ls=>
  obtain⟨h1,h2,h3,⟨t,F,h4,h5,h6⟩,h7,h8⟩:=h
  exact⟨h1,h2,h3,⟨t,F,h4,h5,fun k hk=>hs k (h6 k hk)⟩,h7,h8⟩
 |runX nl nd tb ls s=>
  obtain⟨h1,h2,h3,⟨t,F,h4,h5,h6⟩,h7,h8⟩:=h
  exact⟨h1,h2,h3,⟨t,F,h4,h5,fun k hk=>hs k (h6 k hk)⟩,h7,h8⟩
 |sym L D=>
  obtain⟨h1,t1,F1,t2,F2,h2,h3,h4,h5,h6⟩:=h
  exact⟨h1,t1,F1,t2,F2,h2,h3,h4,h5,fun k hk=>hs k (h6 k hk)⟩
 |lenX L D s=>
  obtain⟨h0,h1,t1,F1,t2,F2,h2,h3,h4,h5,h6⟩:=h
  exact⟨h0,h1,t1,F1,t2,F2,h2,h3,h4,h5,fun k hk=>hs k (h6 k hk)⟩
 |dist L D n=>
  obtain⟨h0,h1,h1',t1,F1,t2,F2,h2,h3,h4,h5,h6⟩:=h
  exact⟨h0,h1,h1',t1,F1,t2,F2,h2,h3,h4,h5,fun k hk=>hs k (h6 k hk)⟩
 |distX L D n s=>
  obtain⟨h0,h1,h1',h1'',t1,F1,t2,F2,h2,h3,h4,h5,h6⟩:=h
  exact⟨h0,h1,h1',h1'',t1,F1,t2,F2,h2,h3,h4,h5,fun k hk=>hs k (h6 k hk)⟩
 |block=>exact h
 |size=>exact h
 |bytes _=>exact h
 |counts=>exact h
 |ended=>exact h
structure Maq (w:World) (mb rb wb:Nat) (RF S:List Nat) (vo:Value) (q:Qv) (c:Cfg) (R:List Bool) (O:List Nat):Prop where
 own:Own w mb (mcs rb wb vo c.fin q)
 rd:Rd RF w rb R
 win:Wi w wb c.T
 out:Row 0 5 1 w vo O.length (bC O)
 sep:Sep [[mb],RF,[wb],obk vo,S] w.heap.size
 st:Stt w S q c.st
 len:c.T.length≤30000
 olen:O.length≤30000
def Ma (F:List Nat) (w:World) (mb:Nat) (c:Cfg) (R:List Bool) (O:List Nat):Prop:=
 ∃rb wb RF S vo q,F=mb::(RF++wb::(obk vo++S))∧Maq w mb rb wb RF S vo q c R O
section
variable {w w':World} {mb rb wb:Nat} {RF S:List Nat} {vo:Value} {q:Qv} {c:Cfg} {R:List Bool} {O:List Nat}
theorem Maq.rbIn (h:Maq w mb rb wb RF S vo q c R O):rb∈RF:=by
 obtain⟨v,buf,p,gone,rfl,_⟩:=h.rd
 simp
theorem Maq.lt (h:Maq w mb rb wb RF S vo q c R O):mb<w.heap.size:=h.sep.1 0 mb (by simp)
theorem Maq.fr {G:List Nat} (h:Maq w mb rb wb RF S vo q c R O) (hf:Fr G w w') (hd: ∀k∈mb::(RF++wb::(obk vo++S)),k ∉ G):Maq w' mb rb wb RF S vo q c R O:=
 ⟨h.own.fr hf h.lt (hd mb (by simp)),h.rd.fr hf (fun k hk=>hd k (by simp[hk])),h.win.fr hf (hd wb (by simp)),h.out.fr hf (fun k hk=>hd k (by simp[hk])),h.sep.up hf.size,h.st.fr hf (fun k hk=>hd k (by simp[hk])),h.len,h.olen⟩
theorem Maq.below (h:Maq w mb rb wb RF S vo q c R O) (hb:Below w.heap.size w w'):Maq w' mb rb wb RF S vo q c R O:=h.fr (Fr.of_below (F:=[]) hb) (fun _ _ h=>by cases h)
theorem Maq.read {RF':List Nat} {R':List Bool} (h:Maq w mb rb wb RF S vo q c R O) (hr:Rd RF' w' rb R') (hf:Fr RF w w') (hn:New RF RF' w.heap.size):Maq w' mb rb wb RF' S vo q c R' O:=by
 refine⟨h.own.fr hf h.lt (h.sep.2 0 1 mb (by decide) (by simp)),hr,h.win.fr hf (h.sep.2 2 1 wb (by decide) (by simp)),h.out.fr hf (fun k hk=>h.sep.2 3 1 k (by decide) hk),?_,h.st.fr hf (fun k hk=>h.sep.2 4 1 k (by decide) hk),h.len,h.olen⟩
 exact h.sep.set hf.size 1 RF' (fun k hk=>⟨(hr.lt k hk).2,hn k hk⟩)
theorem Maq.cells {q':Qv} {f':Bool} {st':St} {S':List Nat} {G:List Nat} (h:Maq w mb rb wb RF S vo q c R O) (hf:Fr G w w') (hG: ∀k∈G,k=mb∨k∈S) (hO:Own w' mb (mcs rb wb vo f' q')) (hS:Stt w' S' q' st') (hn: ∀k∈S',k<w'.heap.size∧(k∈S∨w.heap.size≤k)):Maq w' mb rb wb RF S' vo q' ⟨f',c.T,st'⟩ R O:=by
 have hd: ∀i k,i≠0→i≠4→k∈[[mb],RF,[wb],obk vo,S].getD i []→k ∉ G:=fun i k h0 h4 hk hg=>by
  rcases hG k hg with rfl|h1
  ·exact h.sep.2 i 0 k h0 hk (by simp)
  ·exact h.sep.2 i 4 k h4 hk h1
 refine⟨hO,h.rd.fr hf (fun k hk=>hd 1 k (by decide) (by decide) hk),h.win.fr hf (hd 2 wb (by decide) (by decide) (by simp)),h.out.fr hf (fun k hk=>hd 3 k (by decide) (by decide) hk),h.sep.set hf.size 4 S' hn,hS,h.len,h.olen⟩
theorem Maq.ma (h:Maq w mb rb wb RF S vo q c R O):Ma (mb::(RF++wb::(obk vo++S))) w mb c R O:=⟨rb,wb,RF,S,vo,q,rfl,h⟩
end
theorem Ma.fr {w w':World} {F G:List Nat} {mb:Nat} {c:Cfg} {R:List Bool} {O:List Nat} (h:Ma F w mb c R O) (hf:Fr G w w') (hd: ∀k∈F,k ∉ G):Ma F w' mb c R O:=by
 obtain⟨rb,wb,RF,S,vo,q,rfl,h⟩:=h
 exact⟨rb,wb,RF,S,vo,q,rfl,h.fr hf hd⟩
theorem Ma.lt {w:World} {F:List Nat} {mb:Nat} {c:Cfg} {R:List Bool} {O:List Nat} (h:Ma F w mb c R O): ∀k∈F,k<w.heap.size:=by
 obtain⟨rb,wb,RF,S,vo,q,rfl,h⟩:=h
 intro k hk
 rcases List.mem_cons.1 hk with rfl|hk
 ·exact h.lt
 rcases List.mem_append.1 hk with hk|hk
 ·exact h.sep.1 1 k hk
 rcases List.mem_cons.1 hk with rfl|hk
 ·exact h.win.lt
 rcases List.mem_append.1 hk with hk|hk
 ·exact h.sep.1 3 k hk
 ·exact h.sep.1 4 k hk
def qv0:Qv:=⟨.int .i64 0,.int .i64 0,.int .i64 0,.int .i64 0,.int .i64 0,.int .i64 0,.slice none 0 0,.pointer none,.slice none 0 0,.pointer none,.pointer none,.int .i64 0,.int .i64 0⟩
set_option maxHeartbeats 1000000 in
theorem newm_any (w:World):Calls Tryz.prog 6 #[.int .i64 1048576] w fun e w'=> ∃mb F,e= .returned (.tuple #[.pointer (some ⟨mb,0,none⟩),.int .i64 0])∧Ma F w' mb ⟨false,[],.block⟩ [] []∧(∀k∈F,w.heap.size≤k)∧Below w.heap.size w w':=by
 have HR:=Lib.hid (newR_any w)
 have d1:decide ((1048576:Int)<0)=false:=by decide
 go_enter Tryz.func6,Tryz.ntmps6
 go_wp2_with (fail)
 refine HR.out.mono ?_
 rintro e w1 ⟨rb,rfl,hrb,hr1,hb1⟩
 have HR1:=Lib.hid hr1
 have HB1:=Lib.hid hb1
 have HW:=Lib.hid (neww_any w1)
 clear hr1 hb1 HR
 go_wp2_with (fail)
 refine HW.out.mono ?_
 rintro e w2 ⟨wb,rfl,hwb,hw2,hb2⟩
 have HR2:=Lib.hid (HR1.out.below hb2)
 have HW2:=Lib.hid hw2
 have HB2:=Lib.hid (HB1.out.trans (hb2.mono HB1.out.size))
 have hz:=HB1.out.size
 have hlt:=(HR1.out.lt rb (by simp)).2
 clear hw2 hb2 HW HR1 HB1
 go_wp2_with (fail)
 go_ret2
 have hA:=(Below.refl w2.heap.size w2).alloc (Nat.le_refl _) (.cells (mcs rb wb (.slice none 0 0) false qv0).toArray 70)
 have hz2:=HB2.out.size
 have hwl:=HW2.out.lt
 refine⟨w2.heap.size,_,rfl,⟨rb,wb,[rb],[],.slice none 0 0,qv0,rfl,Own.new_at w2 (mcs rb wb (.slice none 0 0) false qv0) 70 _ rfl,HR2.out.below hA,HW2.out.below hA,Row.nil,⟨fun i k hk=> ?_,fun i j k hij hk hk2=> ?_⟩,rfl,by simp,by simp⟩,fun k hk=> ?_,HB2.out.alloc HB2.out.size _⟩
 ·simp only[World.size_alloc]
  rcases i with _|_|_|_|_|i<;>simp[obk,Value.ownBlock] at hk<;>omega
 ·rcases i with _|_|_|_|_|i<;>simp[obk,Value.ownBlock] at hk<;>rcases j with _|_|_|_|_|j<;>simp[obk,Value.ownBlock] at hk2<;>omega
 ·simp[obk,Value.ownBlock] at hk
  omega
end Go.Proofs.YtmdgeoalamancaaGreatDoor
namespace Go.Proofs.YtmdgeoalamancaaGreatDoor
open Go.RowKit
open Bt Can Mc
section
variable {w w':World} {mb rb wb:Nat} {RF S:List Nat} {vo:Value} {q:Qv} {c:Cfg} {R:List Bool} {O:List Nat}
theorem Maq.read1 {R':List Bool} (h:Maq w mb rb wb RF S vo q c R O) (hr:Rd RF w' rb R') (hf:Fr [rb] w w'):Maq w' mb rb wb RF S vo q c R' O:=
 h.read hr (hf.weak (fun x hx _=>by rw[List.mem_singleton.1 hx];exact h.rbIn)) (New.refl _ _)
theorem Maq.set {q':Qv} {f':Bool} {st':St} (h:Maq w mb rb wb RF S vo q c R O) (i:Nat) (v:Value) (hi:(mcs rb wb vo c.fin q).set i v=mcs rb wb vo f' q') (hl:i<19) (hS:Stt w S q' st'):Maq (w.setCell ⟨mb,i,none⟩ v) mb rb wb RF S vo q' ⟨f',c.T,st'⟩ R O:=by
 have hf:Fr [mb] w (w.setCell ⟨mb,i,none⟩ v):=(Fr.refl _ _).setCell (p:=⟨mb,i,none⟩) (.inl (by simp)) v
 refine h.cells (G:=[mb]) hf (fun k hk=> .inl (List.mem_singleton.1 hk)) (by rw[←hi];exact h.own.set i v hl) (hS.fr hf (fun k hk=>by rw[List.mem_singleton];rintro rfl;exact h.sep.2 4 0 k (by decide) hk (by simp))) (fun k hk=>⟨by have:=h.sep.1 4 k hk;simpa using this,.inl hk⟩)
theorem Maq.grow {F1:List Nat} (h:Maq w mb rb wb RF S vo q c R O) (hb:Below w.heap.size w w') (hF: ∀k∈F1,w.heap.size≤k∧k<w'.heap.size):Maq w' mb rb wb RF (F1++S) vo q c R O:=by
 have h2:=h.below hb
 refine⟨h2.own,h2.rd,h2.win,h2.out,h.sep.set hb.size 4 (F1++S) (fun k hk=> ?_),h2.st.more (fun k hk=>by simp[hk]),h2.len,h2.olen⟩
 rcases List.mem_append.1 hk with hk|hk
 ·exact⟨(hF k hk).2,.inr (hF k hk).1⟩
 ·exact⟨Nat.lt_of_lt_of_le (h.sep.1 4 k hk) hb.size,.inl hk⟩
theorem Maq.foot (h:Maq w mb rb wb RF S vo q c R O):mb∈mb::(RF++wb::(obk vo++S))∧rb∈mb::(RF++wb::(obk vo++S))∧wb∈mb::(RF++wb::(obk vo++S)):=⟨by simp,by simp[h.rbIn],by simp⟩
end
def Yes (F:List Nat) (mb:Nat) (c:Cfg) (R:List Bool) (O:List Nat) (w:World) (e:Ending) (w':World):Prop:=e= .returned (.bool true)∧ ∃F',Ma F' w' mb c R O∧Mv F w F' w'
def No (F:List Nat) (mb:Nat) (c:Cfg) (R:List Bool) (O:List Nat) (w:World) (e:Ending) (w':World):Prop:=e= .returned (.bool false)∧Ma F w' mb c R O∧Fr F w w'
section
variable {mb rb wb:Nat} {RF S:List Nat} {vo:Value} {q:Qv} {c:Cfg} {R:List Bool} {O:List Nat}
theorem goOn_any (s:Int) (cs:List Value) (w:World) (hO:Own w mb cs) (hl:cs.length=19):Calls Tryz.prog 88 #[.pointer (some ⟨mb,0,none⟩),.int .i64 s] w fun e w'=>e= .returned (.bool true)∧w'=w.setCell ⟨mb,5,none⟩ (.int .i64 s):=by
 obtain⟨x,hx⟩: ∃x,cs[5]? =some x:=⟨_,List.getElem?_eq_getElem (by omega)⟩
 have k5:=hO.1 5 _ hx
 have f5:=hO.2 5
 clear hO hx
 go_enter Tryz.func88,Tryz.ntmps88
 go_wp2_with (fail)
 go_ret
 exact⟨by rfl,rfl⟩
theorem room_any (w:World) (h:Maq w mb rb wb RF S vo q c R O):Calls Tryz.prog 95 #[.pointer (some ⟨mb,0,none⟩)] w fun e w'=>e= .returned (.int .i64 ((1048576-c.T.length:Nat):Int))∧ ∃n,w'=w.drewN n:=by
 have k0:=h.own.1 0 _ rfl
 have k2:=h.own.1 2 _ rfl
 have HAL:=Lib.hid (fun n=>all_any c.T wb (w.drewN n) (h.win.below (below_drewN (Below.refl _ _) n)))
 have hl:=h.len
 have q1:IntKind.i64.wrap (1048576-(c.T.length:Int))=((1048576-c.T.length:Nat):Int):=by rw[IntWalk.i64_in _ (by omega)];omega
 clear h
 go_enter Tryz.func95,Tryz.ntmps95
 go_upto_region 1 with (fail)
 go_quiet ((go_at_call 34;exact Calls.quiet_of_same (HAL.out _)))
 go_wp2_with (fail)
 go_ret
 exact⟨by rfl,_,rfl⟩
theorem mlen_any (F:List Nat) (w:World) (h:Ma F w mb c R O):Calls Tryz.prog 16 #[.pointer (some ⟨mb,0,none⟩)] w fun e w'=>e= .returned (.int .i64 (c.T.length:Nat))∧w'=w:=by
 obtain⟨rb,wb,RF,S,vo,q,rfl,h⟩:=h
 have k2:=h.own.1 2 _ rfl
 have HAL:=Lib.hid (all_any c.T wb w h.win)
 clear h
 go_enter Tryz.func16,Tryz.ntmps16
 go_wp2_with (fail)
 refine HAL.out.mono ?_
 rintro e w1 ⟨rfl,rfl⟩
 go_wp2_with (fail)
 go_ret
 exact⟨by rfl,rfl⟩
def stN:St→Nat
 | .block=>0
 | .size=>1
 | .bytes _=>2
 | .counts=>3
 | .short .. =>4
 | .run .. =>5
 | .runX .. =>6
 | .sym .. =>7
 | .lenX .. =>8
 | .dist .. =>9
 | .distX .. =>10
 | .ended=>11
theorem Stt.stage {w:World} {S:List Nat} {q:Qv} {st:St} (h:Stt w S q st):q.stage= .int .i64 (stN st:Nat):=by
 cases st<;>first|exact h|exact h.1
theorem done_any (F:List Nat) (w:World) (h:Ma F w mb c R O):Calls Tryz.prog 14 #[.pointer (some ⟨mb,0,none⟩)] w fun e w'=>e= .returned (.bool (stN c.st==11))∧w'=w:=by
 obtain⟨rb,wb,RF,S,vo,q,rfl,h⟩:=h
 have k5:=h.own.1 5 _ rfl
 rw[h.st.stage] at k5
 have HE:Hid ((((stN c.st:Nat):Int)==11)=(stN c.st==11)):=Lib.hid (by
  by_cases e:stN c.st=11
  ·rw[e];rfl
  ·rw[show (stN c.st==11)=false by simp[e]]
   simp
   omega)
 obtain⟨s,hs⟩: ∃z,stN c.st=z:=⟨_,rfl⟩
 rw[hs] at k5 HE ⊢
 clear h hs
 go_enter Tryz.func14,Tryz.ntmps14
 go_wp2_with (fail)
 go_ret
 exact⟨by first|(rw[←HE.out];rfl)|rfl,rfl⟩
theorem mtake_any (F:List Nat) (w:World) (h:Ma F w mb c R O):Calls Tryz.prog 11 #[.pointer (some ⟨mb,0,none⟩)] w fun e w'=> ∃v F',e= .returned v∧Row 0 5 1 w' v O.length (bC O)∧Ma F' w' mb c R []∧(∀k∈obk v,k ∉ F')∧(∀k∈F',k∈F)∧(∀k∈obk v,k∈F)∧Fr [mb] w w'∧mb∈F:=by
 obtain⟨rb,wb,RF,S,vo,q,rfl,h⟩:=h
 have k3:=h.own.1 3 _ rfl
 have f3:=h.own.2 3
 have HM:=Lib.hid h
 clear h
 go_enter Tryz.func11,Tryz.ntmps11
 go_wp2_with (fail)
 go_ret
 have h:=HM.out
 have hf:Fr [mb] w (w.setCell ⟨mb,3,none⟩ (.slice none 0 0)):=(Fr.refl _ _).setCell (p:=⟨mb,3,none⟩) (.inl (by simp)) _
 have hd: ∀i k,i≠0→k∈[[mb],RF,[wb],obk vo,S].getD i []→k ∉ [mb]:=fun i k h0 hk hg=>by
  rw[List.mem_singleton.1 hg] at hk
  exact h.sep.2 i 0 mb h0 hk (by simp)
 refine⟨vo,mb::(RF++wb::(obk (.slice none 0 0)++S)),rfl,h.out.fr hf (fun k hk=>hd 3 k (by decide) hk),⟨rb,wb,RF,S,.slice none 0 0,q,rfl,h.own.set 3 _ (by simp[mcs]),h.rd.fr hf (fun k hk=>hd 1 k (by decide) hk),h.win.fr hf (hd 2 wb (by decide) (by simp)),Row.nil,?_,h.st.fr hf (fun k hk=>hd 4 k (by decide) hk),h.len,by simp⟩,fun k hk hm=> ?_,fun k hk=> ?_,fun k hk=>by simp[hk],hf,by simp⟩
 ·exact h.sep.set (m:=(w.setCell ⟨mb,3,none⟩ (.slice none 0 0)).heap.size) hf.size 3 [] (fun k hk=>by cases hk)
 ·rcases List.mem_cons.1 hm with rfl|hm
  ·exact hd 3 k (by decide) hk (by simp)
  rcases List.mem_append.1 hm with hm|hm
  ·exact h.sep.2 3 1 k (by decide) hk hm
  rcases List.mem_cons.1 hm with rfl|hm
  ·exact h.sep.2 3 2 k (by decide) hk (by simp)
  rcases List.mem_append.1 hm with hm|hm
  ·simp[obk,Value.ownBlock] at hm
  ·exact h.sep.2 3 4 k (by decide) hk hm
 ·rcases List.mem_cons.1 hk with rfl|hk
  ·simp
  rcases List.mem_append.1 hk with hk|hk
  ·simp[hk]
  rcases List.mem_cons.1 hk with rfl|hk
  ·simp
  rcases List.mem_append.1 hk with hk|hk
  ·simp[obk,Value.ownBlock] at hk
  ·simp[hk]
set_option maxHeartbeats 2000000 in
theorem endB_any (w:World) (h:Maq w mb rb wb RF S vo q c R O):Calls Tryz.prog 93 #[.pointer (some ⟨mb,0,none⟩)] w fun e w'=>e= .returned (.bool true)∧(∃q',Maq w' mb rb wb RF S vo q' ⟨c.fin,c.T,if c.fin then .ended else .block⟩ (if c.fin then R.drop (R.length%8) else R) O)∧Fr [mb,rb] w w':=by
 have k6:=h.own.1 6 _ rfl
 have k1:=h.own.1 1 _ rfl
 have HM:=Lib.hid h
 have HAL:=Lib.hid (ralign_any RF rb R w h.rd)
 have HG:=Lib.hid (goOn_any 0 _ w h.own rfl)
 clear h
 cases hf:c.fin with
 |false=>
  rw[hf] at k6
  have HF0:=Lib.hid hf
  clear hf
  go_enter Tryz.func93,Tryz.ntmps93
  go_wp2_with (fail)
  refine HG.out.mono ?_
  rintro e w1 ⟨rfl,rfl⟩
  go_wp2_with (fail)
  go_ret
  exact⟨by rfl,⟨{q with stage:= .int .i64 0},HM.out.set (f':=false) (st':= .block) 5 _ (by rw[HF0.out];rfl) (by decide) rfl⟩,(Fr.refl _ _).setCell (p:=⟨mb,5,none⟩) (.inl (by simp)) _⟩
 |true=>
  rw[hf] at k6
  have HF0:=Lib.hid hf
  clear hf
  go_enter Tryz.func93,Tryz.ntmps93
  go_wp2_with (fail)
  refine HAL.out.mono ?_
  rintro e w1 ⟨rfl,hr1,hf1⟩
  have HM1:=Lib.hid (HM.out.read1 hr1 hf1)
  have HF1:=Lib.hid hf1
  have HG1:=Lib.hid (goOn_any 11 _ w1 HM1.out.own rfl)
  clear hr1 hf1 HG HAL
  go_wp2_with (fail)
  refine HG1.out.mono ?_
  rintro e w2 ⟨rfl,rfl⟩
  go_wp2_with (fail)
  go_ret
  exact⟨by rfl,⟨{q with stage:= .int .i64 11},HM1.out.set (f':=true) (st':= .ended) 5 _ (by rw[HF0.out];rfl) (by decide) rfl⟩,(HF1.out.weak (fun x hx _=>by simp[List.mem_singleton.1 hx])).setCell (p:=⟨mb,5,none⟩) (.inl (by simp)) _⟩
set_option maxHeartbeats 2000000 in
theorem mput_any (l:List Nat) (m:Nat) (v:Value) (w:World) (h:Maq w mb rb wb RF S vo q c R O) (hsl: ∀W,Fr (mb::wb::obk vo) w W→Sl W W.heap.size 1 v m (bC l)) (hm:m=l.length) (hl:c.T.length+m≤30000) (hlO:O.length+m≤30000):Calls Tryz.prog 97 #[.pointer (some ⟨mb,0,none⟩),v] w fun e w'=>e= .returned (.tuple #[])∧ ∃vo',Maq w' mb rb wb RF S vo' q ⟨c.fin,c.T++l,c.st⟩ R (O++l)∧Mv (mb::(RF++wb::(obk vo++S))) w (mb::(RF++wb::(obk vo'++S))) w':=by
 have k2:=h.own.1 2 _ rfl
 have HM:=Lib.hid h
 have HSL:=Lib.hid hsl
 have HPW:=Lib.hid (putw_any c.T l m wb v w h.win (fun W hW=>hsl W (hW.weak (fun x hx _=>by simp[List.mem_singleton.1 hx]))) hm (by omega))
 have HL:=Lib.hid hm
 obtain⟨a,cap,rfl,hcap⟩:=(hsl w (Fr.refl _ _)).form
 obtain⟨oa,ocap,rfl,hocap⟩:=h.out.form
 clear h hsl hm
 go_enter Tryz.func97,Tryz.ntmps97
 go_wp2_with (fail)
 refine HPW.out.mono ?_
 rintro e w1 ⟨rfl,hw1,hf1⟩
 have HW1:=Lib.hid hw1
 have HF1:=Lib.hid hf1
 have hd1: ∀i k,i≠2→k∈[[mb],RF,[wb],obk (Value.slice oa O.length ocap),S].getD i []→k ∉ [wb]:=fun i k h0 hk hg=>by
  rw[List.mem_singleton.1 hg] at hk
  exact HM.out.sep.2 i 2 wb h0 hk (by simp)
 have HO1:=Lib.hid (HM.out.own.fr hf1 HM.out.lt (hd1 0 mb (by decide) (by simp)))
 have HR1:=Lib.hid (HM.out.out.fr hf1 (fun k hk=>hd1 3 k (by decide) hk))
 have HS1:=Lib.hid (HSL.out w1 (hf1.weak (fun x hx _=>by simp[List.mem_singleton.1 hx])))
 have hlt1:mb<w1.heap.size:=Nat.lt_of_lt_of_le HM.out.lt hf1.size
 have hz1:=hf1.size
 clear hw1 hf1 HPW k2
 obtain⟨ol,hol⟩: ∃z,O.length=z:=⟨_,rfl⟩
 have HOL:=Lib.hid hol
 rw[hol] at HM HR1 HSL hocap hlO HO1 hd1
 have k3:=HO1.out.1 3 _ rfl
 clear hol
 go_wp2_with (at_builtin;refine append_rowM (base:=0) (size:=1) (xs:=bC O) Tryz.underlying23 info_u8 rfl (by decide) rfl _ _ rfl rfl HR1.out rfl HS1.out (bC_one _) ?_ ?_ ?_ ?_;omega;omega;exact Nat.zero_le _)
 intro v7 w7 hr7 hb7 hg7 hw7
 obtain⟨a7,c7,rfl,_⟩:=hr7.form
 have hf7:Fr (obk (Value.slice oa ol ocap)) w1 w7:=(Fr.refl _ w1).grown hg7 (fun k hk _=>mem_obk.2 hk)
 have HF7:=Lib.hid hf7
 have HR7:=Lib.hid hr7
 have HW7:=Lib.hid hw7
 have hd7: ∀i k,i≠3→k∈[[mb],RF,[wb],obk (Value.slice oa ol ocap),S].getD i []→k ∉ obk (Value.slice oa ol ocap):=fun i k h0 hk hg=>HM.out.sep.2 i 3 k h0 hk hg
 have HO7:=Lib.hid (HO1.out.fr hf7 hlt1 (hd7 0 mb (by decide) (by simp)))
 have hz7:=hf7.size
 clear hr7 hb7 hg7 hw7 hf7 k3
 have k3:=HO7.out.1 3 _ rfl
 have f3:=HO7.out.2 3
 go_wp2_with (fail)
 go_end0
 have hf8:Fr [mb] w7 (w7.setCell ⟨mb,3,none⟩ (.slice a7 (ol+m) c7)):=(Fr.refl _ _).setCell (p:=⟨mb,3,none⟩) (.inl (by simp)) _
 have hd8: ∀i k,i≠0→k∈[[mb],RF,[wb],obk (Value.slice oa ol ocap),S].getD i []→k ∉ [mb]:=fun i k h0 hk hg=>by
  rw[List.mem_singleton.1 hg] at hk
  exact HM.out.sep.2 i 0 mb h0 hk (by simp)
 have hnv: ∀k∈obk (Value.slice a7 (ol+m) c7),k∈obk (Value.slice oa ol ocap)∨w1.heap.size≤k:=fun k hk=>by
  rcases HW7.out with e|e
  ·exact .inl (mem_obk.2 (by rw[←e];exact mem_obk.1 hk))
  ·exact .inr (e k (mem_obk.1 hk))
 have hlv: ∀k∈obk (Value.slice a7 (ol+m) c7),k<w7.heap.size:=fun k hk=>(HR7.out.lt k (mem_obk.1 hk)).2
 have hmv: ∀k∈obk (Value.slice a7 (ol+m) c7),k ∉ [mb]:=fun k hk hg=>by
  rw[List.mem_singleton.1 hg] at hk
  rcases hnv mb hk with e|e
  ·exact HM.out.sep.2 0 3 mb (by decide) (by simp) e
  ·omega
 have h:=HM.out
 have HX:Value.slice oa O.length ocap=Value.slice oa ol ocap:=by rw[HOL.out]
 rw[HX]
 refine⟨by rfl,.slice a7 (ol+m) c7,⟨HO7.out.set 3 _ (by simp[mcs]),?_,?_,?_,?_,?_,by rw[List.length_append,←HL.out];exact hl,by rw[List.length_append,←HL.out,HOL.out];exact hlO⟩,?_,?_⟩
 ·exact ((h.rd.fr HF1.out (fun k hk=>hd1 1 k (by decide) hk)).fr HF7.out (fun k hk=>hd7 1 k (by decide) hk)).fr hf8 (fun k hk=>hd8 1 k (by decide) hk)
 ·exact (HW1.out.fr HF7.out (hd7 2 wb (by decide) (by simp))).fr hf8 (hd8 2 wb (by decide) (by simp))
 ·rw[List.length_append,←HL.out,HOL.out,bC_app]
  exact HR7.out.fr hf8 hmv
 ·exact h.sep.set (by have:=hf8.size;omega) 3 _ (fun k hk=>⟨by have:=hlv k hk;simpa using this,by
   rcases hnv k hk with e|e
   ·exact .inl e
   ·exact .inr (by omega)⟩)
 ·exact ((h.st.fr HF1.out (fun k hk=>hd1 4 k (by decide) hk)).fr HF7.out (fun k hk=>hd7 4 k (by decide) hk)).fr hf8 (fun k hk=>hd8 4 k (by decide) hk)
 ·exact (((HF1.out.weak (G:=mb::(RF++wb::(obk (Value.slice oa ol ocap)++S))) (fun x hx _=>by simp[List.mem_singleton.1 hx])).trans HF7.out (fun x hx _=>by simp[hx]))).trans hf8 (fun x hx _=>by simp[List.mem_singleton.1 hx])
 ·intro k hk
  rcases List.mem_cons.1 hk with rfl|hk
  ·exact .inl (by simp)
  rcases List.mem_append.1 hk with hk|hk
  ·exact .inl (by simp[hk])
  rcases List.mem_cons.1 hk with rfl|hk
  ·exact .inl (by simp)
  rcases List.mem_append.1 hk with hk|hk
  ·rcases hnv k hk with e|e
   ·exact .inl (by simp[e])
   ·exact .inr (by omega)
  ·exact .inl (by simp[hk])
end
end Go.Proofs.YtmdgeoalamancaaGreatDoor
namespace Go.Proofs.YtmdgeoalamancaaGreatDoor
open Go.RowKit
open Bt Can Mc
theorem may_fixL:May fixL 1:=⟨by decide,.inl (by kernel_rfl)⟩
theorem may_fixD:May fixD 2:=⟨by decide,.inl (by kernel_rfl)⟩
theorem Tb.lt {F:List Nat} {w:World} {tb:Nat} {ls:List Nat} (h:Tb F w tb ls): ∀k∈F,k<w.heap.size:=by
 obtain⟨v,sy,most,rfl,h1,h2,h3,h4⟩:=h
 intro k hk
 rcases List.mem_cons.1 hk with rfl|hk
 ·exact h2
 ·exact (h3.lt k (mem_obk.1 hk)).2
section
variable {mb rb wb:Nat} {RF S:List Nat} {vo:Value} {q:Qv} {f:Bool} {T:List Nat} {R:List Bool} {O:List Nat}
theorem Yes.of {S':List Nat} {RF':List Nat} {vo':Value} {q':Qv} {c':Cfg} {R':List Bool} {O':List Nat} {w w':World} (h:Maq w' mb rb wb RF' S' vo' q' c' R' O') {F:List Nat} (hm:Mv F w (mb::(RF'++wb::(obk vo'++S'))) w'):Yes F mb c' R' O' w (.returned (.bool true)) w':=⟨rfl,_,h.ma,hm⟩
theorem New.stage {A S S':List Nat} {n:Nat} (hS: ∀k∈S',k∈S∨n≤k):New (mb::(RF++wb::(A++S))) (mb::(RF++wb::(A++S'))) n:=by
 intro k hk
 rcases List.mem_cons.1 hk with rfl|hk
 ·exact .inl (by simp)
 rcases List.mem_append.1 hk with hk|hk
 ·exact .inl (by simp[hk])
 rcases List.mem_cons.1 hk with rfl|hk
 ·exact .inl (by simp)
 rcases List.mem_append.1 hk with hk|hk
 ·exact .inl (by simp[hk])
 ·rcases hS k hk with h|h
  ·exact .inl (by simp[h])
  ·exact .inr h
theorem block_no (w:World) (h:Maq w mb rb wb RF S vo q ⟨f,T,.block⟩ R O) (hR:R.length<3):Calls Tryz.prog 53 #[.pointer (some ⟨mb,0,none⟩)] w (No (mb::(RF++wb::(obk vo++S))) mb ⟨f,T,.block⟩ R O w):=by
 have k1:=h.own.1 1 _ rfl
 have HB:=Lib.hid (bits_no RF rb R 3 w h.rd (by decide) hR)
 have HM:=Lib.hid h
 clear h
 go_enter Tryz.func53,Tryz.ntmps53
 go_wp2_with (fail)
 refine HB.out.mono ?_
 rintro e w1 ⟨rfl,hb1⟩
 have HB1:=Lib.hid hb1
 clear hb1
 go_wp2_with (fail)
 go_ret
 exact⟨by rfl,(HM.out.below HB1.out).ma,Fr.of_below HB1.out⟩
theorem ssize_no (w:World) (h:Maq w mb rb wb RF S vo q ⟨f,T,.size⟩ R O) (hR:R.length<32):Calls Tryz.prog 54 #[.pointer (some ⟨mb,0,none⟩)] w (No (mb::(RF++wb::(obk vo++S))) mb ⟨f,T,.size⟩ R O w):=by
 have k1:=h.own.1 1 _ rfl
 have HB:=Lib.hid (bits_no RF rb R 32 w h.rd (by decide) hR)
 have HM:=Lib.hid h
 clear h
 go_enter Tryz.func54,Tryz.ntmps54
 go_wp2_with (fail)
 refine HB.out.mono ?_
 rintro e w1 ⟨rfl,hb1⟩
 have HB1:=Lib.hid hb1
 clear hb1
 go_wp2_with (fail)
 go_ret
 exact⟨by rfl,(HM.out.below HB1.out).ma,Fr.of_below HB1.out⟩
theorem counts_no (w:World) (h:Maq w mb rb wb RF S vo q ⟨f,T,.counts⟩ R O) (hR:R.length<14):Calls Tryz.prog 56 #[.pointer (some ⟨mb,0,none⟩)] w (No (mb::(RF++wb::(obk vo++S))) mb ⟨f,T,.counts⟩ R O w):=by
 have k1:=h.own.1 1 _ rfl
 have HB:=Lib.hid (bits_no RF rb R 14 w h.rd (by decide) hR)
 have HM:=Lib.hid h
 clear h
 go_enter Tryz.func56,Tryz.ntmps56
 go_wp2_with (fail)
 refine HB.out.mono ?_
 rintro e w1 ⟨rfl,hb1⟩
 have HB1:=Lib.hid hb1
 clear hb1
 go_wp2_with (fail)
 go_ret
 exact⟨by rfl,(HM.out.below HB1.out).ma,Fr.of_below HB1.out⟩
set_option maxHeartbeats 4000000 in
theorem block_stored0 (w:World) (h:Maq w mb rb wb RF S vo q ⟨f,T,.block⟩ R O) (hR:3≤R.length) (hx:val (R.take 3)=0):Calls Tryz.prog 53 #[.pointer (some ⟨mb,0,none⟩)] w (Yes (mb::(RF++wb::(obk vo++S))) mb ⟨false,T,.size⟩ ((R.drop 3).drop ((R.drop 3).length%8)) O w):=by
 have k1:=h.own.1 1 _ rfl
 have HB:=Lib.hid (bits_yes RF rb R 3 w h.rd (by decide) hR)
 have HM:=Lib.hid h
 rw[hx] at HB
 have z1:bits .and .u32 (0:Int) 1=0:=by decide
 have z2:(0:Int)/2=0:=by decide
 clear h hx
 go_enter Tryz.func53,Tryz.ntmps53
 go_wp2_with (fail)
 refine HB.out.mono ?_
 rintro e w1 ⟨rfl,hr1,hf1⟩
 have HM1:=Lib.hid (HM.out.read1 hr1 hf1)
 have HF1:=Lib.hid (hf1.weak (G:=mb::(RF++wb::(obk vo++S))) (fun x hx _=>by rw[List.mem_singleton.1 hx];exact HM.out.foot.2.1))
 clear hr1 hf1 k1 HB
 have k6:=HM1.out.own.1 6 _ rfl
 have f6:=HM1.out.own.2 6
 go_upto_region 5 with (fail)
 have HM2:=Lib.hid (HM1.out.set (q':=q) (f':=false) (st':= .block) 6 (.bool false) rfl (by decide) HM1.out.st)
 have HF2:=Lib.hid (HF1.out.setCell (p:=⟨mb,6,none⟩) (.inl (by simp)) (.bool false))
 clear k6 f6 HM1 HF1
 generalize w1.setCell ⟨mb,6,none⟩ (.bool false)=w2 at*
 have k1:=HM2.out.own.1 1 _ rfl
 have HAL:=Lib.hid (ralign_any RF rb (R.drop 3) w2 HM2.out.rd)
 go_wp2_with (fail)
 refine HAL.out.mono ?_
 rintro e w3 ⟨rfl,hr3,hf3⟩
 have HM3:=Lib.hid (HM2.out.read1 hr3 hf3)
 have HF3:=Lib.hid (HF2.out.trans hf3 (fun x hx _=>by rw[List.mem_singleton.1 hx];exact HM.out.foot.2.1))
 have HG:=Lib.hid (goOn_any 1 _ w3 HM3.out.own rfl)
 clear hr3 hf3 k1 HAL HM2 HF2
 go_wp2_with (fail)
 refine HG.out.mono ?_
 rintro e w4 ⟨rfl,rfl⟩
 go_wp2_with (fail)
 go_ret
 exact Yes.of (HM3.out.set (q':={q with stage:= .int .i64 1}) (f':=false) (st':= .size) 5 _ rfl (by decide) rfl) ⟨HF3.out.setCell (p:=⟨mb,5,none⟩) (.inl (by simp)) _,New.refl _ _⟩
set_option maxHeartbeats 4000000 in
theorem block_fixed0 (w:World) (h:Maq w mb rb wb RF S vo q ⟨f,T,.block⟩ R O) (hR:3≤R.length) (hx:val (R.take 3)=2):Calls Tryz.prog 53 #[.pointer (some ⟨mb,0,none⟩)] w (Yes (mb::(RF++wb::(obk vo++S))) mb ⟨false,T,.sym fixL fixD⟩ (R.drop 3) O w):=by
 have k1:=h.own.1 1 _ rfl
 have HB:=Lib.hid (bits_yes RF rb R 3 w h.rd (by decide) hR)
 have HM:=Lib.hid h
 rw[hx] at HB
 have z1:bits .and .u32 (2:Int) 1=0:=by decide
 have z2:(2:Int)/2=1:=by decide
 clear h hx
 go_enter Tryz.func53,Tryz.ntmps53
 go_wp2_with (fail)
 refine HB.out.mono ?_
 rintro e w1 ⟨rfl,hr1,hf1⟩
 have HM1:=Lib.hid (HM.out.read1 hr1 hf1)
 have HF1:=Lib.hid (hf1.weak (G:=mb::(RF++wb::(obk vo++S))) (fun x hx _=>by rw[List.mem_singleton.1 hx];exact HM.out.foot.2.1))
 clear hr1 hf1 k1 HB
 have k6:=HM1.out.own.1 6 _ rfl
 have f6:=HM1.out.own.2 6
 go_upto_region 5 with (fail)
 have HM2:=Lib.hid (HM1.out.set (q':=q) (f':=false) (st':= .block) 6 (.bool false) rfl (by decide) HM1.out.st)
 have HF2:=Lib.hid (HF1.out.setCell (p:=⟨mb,6,none⟩) (.inl (by simp)) (.bool false))
 clear k6 f6 HM1 HF1
 generalize w1.setCell ⟨mb,6,none⟩ (.bool false)=w2 at*
 have HL:=Lib.hid (fixl_any w2)
 go_wp2_with (fail)
 refine HL.out.mono ?_
 rintro e w3 ⟨v3,rfl,hr3,hb3⟩
 have HN3:=Lib.hid (new_any fixL 288 1 v3 w3.heap.size w3 hr3.sl (Nat.le_refl _) rfl (by decide) may_fixL (by decide))
 have HB3:=Lib.hid hb3
 obtain⟨va,vc,rfl,_⟩:=hr3.form
 clear hr3 hb3 HL
 go_wp2_with (fail)
 refine HN3.out.mono ?_
 rintro e w4 ⟨t1,F1,rfl,ht1,hn1,hb4⟩
 have hbb:=HB3.out.trans (hb4.mono HB3.out.size)
 have hF1: ∀k∈F1,w2.heap.size≤k∧k<w4.heap.size:=fun k hk=>⟨Nat.le_trans HB3.out.size (hn1 k hk),ht1.lt k hk⟩
 have HM4:=Lib.hid (HM2.out.grow (F1:=F1) hbb hF1)
 have HF4:=Lib.hid (HF2.out.trans (Fr.of_below (F:=[]) hbb) (fun x hx _=>by cases hx))
 have HT1:=Lib.hid ht1
 have HN1:=Lib.hid (fun k hk=>Nat.le_trans HF2.out.size (hF1 k hk).1)
 clear ht1 hn1 hb4 hbb hF1 HB3 HN3 HM2 HF2
 have k15:=HM4.out.own.1 15 _ rfl
 have f15:=HM4.out.own.2 15
 go_upto_region 11 with (fail)
 have HT5:=Lib.hid (HT1.out.fr (G:=[mb]) (w':=w4.setCell ⟨mb,15,none⟩ (.pointer (some ⟨t1,0,none⟩))) ((Fr.refl _ _).setCell (p:=⟨mb,15,none⟩) (.inl (by simp)) _) (fun k hk=>by rw[List.mem_singleton];rintro rfl;exact HM4.out.sep.2 4 0 k (by decide) (by simp[hk]) (by simp)))
 have HM5:=Lib.hid (HM4.out.set (q':={q with lits:= .pointer (some ⟨t1,0,none⟩)}) (f':=false) (st':= .block) 15 (.pointer (some ⟨t1,0,none⟩)) rfl (by decide) HM4.out.st)
 have HF5:=Lib.hid (HF4.out.setCell (p:=⟨mb,15,none⟩) (.inl (by simp)) (.pointer (some ⟨t1,0,none⟩)))
 clear k15 f15 HM4 HF4 HT1
 generalize w4.setCell ⟨mb,15,none⟩ (.pointer (some ⟨t1,0,none⟩))=w5 at*
 have HD:=Lib.hid (fixd_any w5)
 go_wp2_with (fail)
 refine HD.out.mono ?_
 rintro e w6 ⟨v6,rfl,hr6,hb6⟩
 have HN6:=Lib.hid (new_any fixD 32 2 v6 w6.heap.size w6 hr6.sl (Nat.le_refl _) rfl (by decide) may_fixD (by decide))
 have HB6:=Lib.hid hb6
 obtain⟨ua,uc,rfl,_⟩:=hr6.form
 clear hr6 hb6 HD
 go_wp2_with (fail)
 refine HN6.out.mono ?_
 rintro e w7 ⟨t2,F2,rfl,ht2,hn2,hb7⟩
 have hbb:=HB6.out.trans (hb7.mono HB6.out.size)
 have hF2: ∀k∈F2,w5.heap.size≤k∧k<w7.heap.size:=fun k hk=>⟨Nat.le_trans HB6.out.size (hn2 k hk),ht2.lt k hk⟩
 have HM7:=Lib.hid (HM5.out.grow (F1:=F2) hbb hF2)
 have HF7:=Lib.hid (HF5.out.trans (Fr.of_below (F:=[]) hbb) (fun x hx _=>by cases hx))
 have HT7:=Lib.hid (HT5.out.below hbb)
 have HU7:=Lib.hid ht2
 have HN2:=Lib.hid (fun k hk=>Nat.le_trans HF5.out.size (hF2 k hk).1)
 clear ht2 hn2 hb7 hbb hF2 HB6 HN6 HM5 HF5 HT5
 have k16:=HM7.out.own.1 16 _ rfl
 have f16:=HM7.out.own.2 16
 go_upto_region 12 with (fail)
 have hf8:Fr [mb] w7 (w7.setCell ⟨mb,16,none⟩ (.pointer (some ⟨t2,0,none⟩))):=(Fr.refl _ _).setCell (p:=⟨mb,16,none⟩) (.inl (by simp)) _
 have HT8:=Lib.hid (HT7.out.fr hf8 (fun k hk=>by rw[List.mem_singleton];rintro rfl;exact HM7.out.sep.2 4 0 k (by decide) (by simp[hk]) (by simp)))
 have HU8:=Lib.hid (HU7.out.fr hf8 (fun k hk=>by rw[List.mem_singleton];rintro rfl;exact HM7.out.sep.2 4 0 k (by decide) (by simp[hk]) (by simp)))
 have HM8:=Lib.hid (HM7.out.set (q':={q with lits:= .pointer (some ⟨t1,0,none⟩),dists:= .pointer (some ⟨t2,0,none⟩)}) (f':=false) (st':= .block) 16 (.pointer (some ⟨t2,0,none⟩)) rfl (by decide) HM7.out.st)
 have HF8:=Lib.hid (HF7.out.setCell (p:=⟨mb,16,none⟩) (.inl (by simp)) (.pointer (some ⟨t2,0,none⟩)))
 clear k16 f16 HM7 HF7 HT7 HU7 hf8
 generalize w7.setCell ⟨mb,16,none⟩ (.pointer (some ⟨t2,0,none⟩))=w8 at*
 have HG:=Lib.hid (goOn_any 7 _ w8 HM8.out.own rfl)
 go_wp2_with (fail)
 refine HG.out.mono ?_
 rintro e w9 ⟨rfl,rfl⟩
 go_wp2_with (fail)
 go_ret
 have hf9:Fr [mb] w8 (w8.setCell ⟨mb,5,none⟩ (.int .i64 7)):=(Fr.refl _ _).setCell (p:=⟨mb,5,none⟩) (.inl (by simp)) _
 have hms: ∀k∈F1++F2,k∈F2++(F1++S):=fun k hk=>by rcases List.mem_append.1 hk with hk|hk<;>simp[hk]
 have hnm: ∀k∈F1++F2,k ∉ [mb]:=fun k hk hg=>by
  rw[List.mem_singleton.1 hg] at hk
  exact HM8.out.sep.2 4 0 mb (by decide) (hms mb hk) (by simp)
 refine Yes.of (S':=F1++F2) (HM8.out.cells (q':={q with stage:= .int .i64 7,lits:= .pointer (some ⟨t1,0,none⟩),dists:= .pointer (some ⟨t2,0,none⟩)}) (f':=false) (st':= .sym fixL fixD) hf9 (fun k hk=> .inl (List.mem_singleton.1 hk)) (HM8.out.own.set 5 _ (by simp[mcs])) ⟨rfl,t1,F1,t2,F2,rfl,rfl,HT8.out.fr hf9 (fun k hk=>hnm k (by simp[hk])),HU8.out.fr hf9 (fun k hk=>hnm k (by simp[hk])),fun k hk=>hk⟩ (fun k hk=>⟨by have:=HM8.out.sep.1 4 k (hms k hk);simpa using this,.inl (hms k hk)⟩)) ⟨HF8.out.setCell (p:=⟨mb,5,none⟩) (.inl (by simp)) _,New.stage (fun k hk=> ?_)⟩
 rcases List.mem_append.1 hk with hk|hk
 ·exact .inr (HN1.out k hk)
 ·exact .inr (HN2.out k hk)
set_option maxHeartbeats 4000000 in
theorem block_dyn0 (w:World) (h:Maq w mb rb wb RF S vo q ⟨f,T,.block⟩ R O) (hR:3≤R.length) (hx:val (R.take 3)=4):Calls Tryz.prog 53 #[.pointer (some ⟨mb,0,none⟩)] w (Yes (mb::(RF++wb::(obk vo++S))) mb ⟨false,T,.counts⟩ (R.drop 3) O w):=by
 have k1:=h.own.1 1 _ rfl
 have HB:=Lib.hid (bits_yes RF rb R 3 w h.rd (by decide) hR)
 have HM:=Lib.hid h
 rw[hx] at HB
 have z1:bits .and .u32 (4:Int) 1=0:=by decide
 have z2:(4:Int)/2=2:=by decide
 clear h hx
 go_enter Tryz.func53,Tryz.ntmps53
 go_wp2_with (fail)
 refine HB.out.mono ?_
 rintro e w1 ⟨rfl,hr1,hf1⟩
 have HM1:=Lib.hid (HM.out.read1 hr1 hf1)
 have HF1:=Lib.hid (hf1.weak (G:=mb::(RF++wb::(obk vo++S))) (fun x hx _=>by rw[List.mem_singleton.1 hx];exact HM.out.foot.2.1))
 clear hr1 hf1 k1 HB
 have k6:=HM1.out.own.1 6 _ rfl
 have f6:=HM1.out.own.2 6
 go_upto_region 5 with (fail)
 have HM2:=Lib.hid (HM1.out.set (q':=q) (f':=false) (st':= .block) 6 (.bool false) rfl (by decide) HM1.out.st)
 have HF2:=Lib.hid (HF1.out.setCell (p:=⟨mb,6,none⟩) (.inl (by simp)) (.bool false))
 clear k6 f6 HM1 HF1
 generalize w1.setCell ⟨mb,6,none⟩ (.bool false)=w2 at*
 have HG:=Lib.hid (goOn_any 3 _ w2 HM2.out.own rfl)
 go_wp2_with (fail)
 refine HG.out.mono ?_
 rintro e w4 ⟨rfl,rfl⟩
 go_wp2_with (fail)
 go_ret
 exact Yes.of (HM2.out.set (q':={q with stage:= .int .i64 3}) (f':=false) (st':= .counts) 5 _ rfl (by decide) rfl) ⟨HF2.out.setCell (p:=⟨mb,5,none⟩) (.inl (by simp)) _,New.refl _ _⟩
set_option maxHeartbeats 4000000 in
theorem block_stored1 (w:World) (h:Maq w mb rb wb RF S vo q ⟨f,T,.block⟩ R O) (hR:3≤R.length) (hx:val (R.take 3)=1):Calls Tryz.prog 53 #[.pointer (some ⟨mb,0,none⟩)] w (Yes (mb::(RF++wb::(obk vo++S))) mb ⟨true,T,.size⟩ ((R.drop 3).drop ((R.drop 3).length%8)) O w):=by
 have k1:=h.own.1 1 _ rfl
 have HB:=Lib.hid (bits_yes RF rb R 3 w h.rd (by decide) hR)
 have HM:=Lib.hid h
 rw[hx] at HB
 have z1:bits .and .u32 (1:Int) 1=1:=by decide
 have z2:(1:Int)/2=0:=by decide
 clear h hx
 go_enter Tryz.func53,Tryz.ntmps53
 go_wp2_with (fail)
 refine HB.out.mono ?_
 rintro e w1 ⟨rfl,hr1,hf1⟩
 have HM1:=Lib.hid (HM.out.read1 hr1 hf1)
 have HF1:=Lib.hid (hf1.weak (G:=mb::(RF++wb::(obk vo++S))) (fun x hx _=>by rw[List.mem_singleton.1 hx];exact HM.out.foot.2.1))
 clear hr1 hf1 k1 HB
 have k6:=HM1.out.own.1 6 _ rfl
 have f6:=HM1.out.own.2 6
 go_upto_region 5 with (fail)
 have HM2:=Lib.hid (HM1.out.set (q':=q) (f':=true) (st':= .block) 6 (.bool true) rfl (by decide) HM1.out.st)
 have HF2:=Lib.hid (HF1.out.setCell (p:=⟨mb,6,none⟩) (.inl (by simp)) (.bool true))
 clear k6 f6 HM1 HF1
 generalize w1.setCell ⟨mb,6,none⟩ (.bool true)=w2 at*
 have k1:=HM2.out.own.1 1 _ rfl
 have HAL:=Lib.hid (ralign_any RF rb (R.drop 3) w2 HM2.out.rd)
 go_wp2_with (fail)
 refine HAL.out.mono ?_
 rintro e w3 ⟨rfl,hr3,hf3⟩
 have HM3:=Lib.hid (HM2.out.read1 hr3 hf3)
 have HF3:=Lib.hid (HF2.out.trans hf3 (fun x hx _=>by rw[List.mem_singleton.1 hx];exact HM.out.foot.2.1))
 have HG:=Lib.hid (goOn_any 1 _ w3 HM3.out.own rfl)
 clear hr3 hf3 k1 HAL HM2 HF2
 go_wp2_with (fail)
 refine HG.out.mono ?_
 rintro e w4 ⟨rfl,rfl⟩
 go_wp2_with (fail)
 go_ret
 exact Yes.of (HM3.out.set (q':={q with stage:= .int .i64 1}) (f':=true) (st':= .size) 5 _ rfl (by decide) rfl) ⟨HF3.out.setCell (p:=⟨mb,5,none⟩) (.inl (by simp)) _,New.refl _ _⟩
set_option maxHeartbeats 4000000 in
theorem block_fixed1 (w:World) (h:Maq w mb rb wb RF S vo q ⟨f,T,.block⟩ R O) (hR:3≤R.length) (hx:val (R.take 3)=3):Calls Tryz.prog 53 #[.pointer (some ⟨mb,0,none⟩)] w (Yes (mb::(RF++wb::(obk vo++S))) mb ⟨true,T,.sym fixL fixD⟩ (R.drop 3) O w):=by
 have k1:=h.own.1 1 _ rfl
 have HB:=Lib.hid (bits_yes RF rb R 3 w h.rd (by decide) hR)
 have HM:=Lib.hid h
 rw[hx] at HB
 have z1:bits .and .u32 (3:Int) 1=1:=by decide
 have z2:(3:Int)/2=1:=by decide
 clear h hx
 go_enter Tryz.func53,Tryz.ntmps53
 go_wp2_with (fail)
 refine HB.out.mono ?_
 rintro e w1 ⟨rfl,hr1,hf1⟩
 have HM1:=Lib.hid (HM.out.read1 hr1 hf1)
 have HF1:=Lib.hid (hf1.weak (G:=mb::(RF++wb::(obk vo++S))) (fun x hx _=>by rw[List.mem_singleton.1 hx];exact HM.out.foot.2.1))
 clear hr1 hf1 k1 HB
 have k6:=HM1.out.own.1 6 _ rfl
 have f6:=HM1.out.own.2 6
 go_upto_region 5 with (fail)
 have HM2:=Lib.hid (HM1.out.set (q':=q) (f':=true) (st':= .block) 6 (.bool true) rfl (by decide) HM1.out.st)
 have HF2:=Lib.hid (HF1.out.setCell (p:=⟨mb,6,none⟩) (.inl (by simp)) (.bool true))
 clear k6 f6 HM1 HF1
 generalize w1.setCell ⟨mb,6,none⟩ (.bool true)=w2 at*
 have HL:=Lib.hid (fixl_any w2)
 go_wp2_with (fail)
 refine HL.out.mono ?_
 rintro e w3 ⟨v3,rfl,hr3,hb3⟩
 have HN3:=Lib.hid (new_any fixL 288 1 v3 w3.heap.size w3 hr3.sl (Nat.le_refl _) rfl (by decide) may_fixL (by decide))
 have HB3:=Lib.hid hb3
 obtain⟨va,vc,rfl,_⟩:=hr3.form
 clear hr3 hb3 HL
 go_wp2_with (fail)
 refine HN3.out.mono ?_
 rintro e w4 ⟨t1,F1,rfl,ht1,hn1,hb4⟩
 have hbb:=HB3.out.trans (hb4.mono HB3.out.size)
 have hF1: ∀k∈F1,w2.heap.size≤k∧k<w4.heap.size:=fun k hk=>⟨Nat.le_trans HB3.out.size (hn1 k hk),ht1.lt k hk⟩
 have HM4:=Lib.hid (HM2.out.grow (F1:=F1) hbb hF1)
 have HF4:=Lib.hid (HF2.out.trans (Fr.of_below (F:=[]) hbb) (fun x hx _=>by cases hx))
 have HT1:=Lib.hid ht1
 have HN1:=Lib.hid (fun k hk=>Nat.le_trans HF2.out.size (hF1 k hk).1)
 clear ht1 hn1 hb4 hbb hF1 HB3 HN3 HM2 HF2
 have k15:=HM4.out.own.1 15 _ rfl
 have f15:=HM4.out.own.2 15
 go_upto_region 11 with (fail)
 have HT5:=Lib.hid (HT1.out.fr (G:=[mb]) (w':=w4.setCell ⟨mb,15,none⟩ (.pointer (some ⟨t1,0,none⟩))) ((Fr.refl _ _).setCell (p:=⟨mb,15,none⟩) (.inl (by simp)) _) (fun k hk=>by rw[List.mem_singleton];rintro rfl;exact HM4.out.sep.2 4 0 k (by decide) (by simp[hk]) (by simp)))
 have HM5:=Lib.hid (HM4.out.set (q':={q with lits:= .pointer (some ⟨t1,0,none⟩)}) (f':=true) (st':= .block) 15 (.pointer (some ⟨t1,0,none⟩)) rfl (by decide) HM4.out.st)
 have HF5:=Lib.hid (HF4.out.setCell (p:=⟨mb,15,none⟩) (.inl (by simp)) (.pointer (some ⟨t1,0,none⟩)))
 clear k15 f15 HM4 HF4 HT1
 generalize w4.setCell ⟨mb,15,none⟩ (.pointer (some ⟨t1,0,none⟩))=w5 at*
 have HD:=Lib.hid (fixd_any w5)
 go_wp2_with (fail)
 refine HD.out.mono ?_
 rintro e w6 ⟨v6,rfl,hr6,hb6⟩
 have HN6:=Lib.hid (new_any fixD 32 2 v6 w6.heap.size w6 hr6.sl (Nat.le_refl _) rfl (by decide) may_fixD (by decide))
 have HB6:=Lib.hid hb6
 obtain⟨ua,uc,rfl,_⟩:=hr6.form
 clear hr6 hb6 HD
 go_wp2_with (fail)
 refine HN6.out.mono ?_
 rintro e w7 ⟨t2,F2,rfl,ht2,hn2,hb7⟩
 have hbb:=HB6.out.trans (hb7.mono HB6.out.size)
 have hF2: ∀k∈F2,w5.heap.size≤k∧k<w7.heap.size:=fun k hk=>⟨Nat.le_trans HB6.out.size (hn2 k hk),ht2.lt k hk⟩
 have HM7:=Lib.hid (HM5.out.grow (F1:=F2) hbb hF2)
 have HF7:=Lib.hid (HF5.out.trans (Fr.of_below (F:=[]) hbb) (fun x hx _=>by cases hx))
 have HT7:=Lib.hid (HT5.out.below hbb)
 have HU7:=Lib.hid ht2
 have HN2:=Lib.hid (fun k hk=>Nat.le_trans HF5.out.size (hF2 k hk).1)
 clear ht2 hn2 hb7 hbb hF2 HB6 HN6 HM5 HF5 HT5
 have k16:=HM7.out.own.1 16 _ rfl
 have f16:=HM7.out.own.2 16
 go_upto_region 12 with (fail)
 have hf8:Fr [mb] w7 (w7.setCell ⟨mb,16,none⟩ (.pointer (some ⟨t2,0,none⟩))):=(Fr.refl _ _).setCell (p:=⟨mb,16,none⟩) (.inl (by simp)) _
 have HT8:=Lib.hid (HT7.out.fr hf8 (fun k hk=>by rw[List.mem_singleton];rintro rfl;exact HM7.out.sep.2 4 0 k (by decide) (by simp[hk]) (by simp)))
 have HU8:=Lib.hid (HU7.out.fr hf8 (fun k hk=>by rw[List.mem_singleton];rintro rfl;exact HM7.out.sep.2 4 0 k (by decide) (by simp[hk]) (by simp)))
 have HM8:=Lib.hid (HM7.out.set (q':={q with lits:= .pointer (some ⟨t1,0,none⟩),dists:= .pointer (some ⟨t2,0,none⟩)}) (f':=true) (st':= .block) 16 (.pointer (some ⟨t2,0,none⟩)) rfl (by decide) HM7.out.st)
 have HF8:=Lib.hid (HF7.out.setCell (p:=⟨mb,16,none⟩) (.inl (by simp)) (.pointer (some ⟨t2,0,none⟩)))
 clear k16 f16 HM7 HF7 HT7 HU7 hf8
 generalize w7.setCell ⟨mb,16,none⟩ (.pointer (some ⟨t2,0,none⟩))=w8 at*
 have HG:=Lib.hid (goOn_any 7 _ w8 HM8.out.own rfl)
 go_wp2_with (fail)
 refine HG.out.mono ?_
 rintro e w9 ⟨rfl,rfl⟩
 go_wp2_with (fail)
 go_ret
 have hf9:Fr [mb] w8 (w8.setCell ⟨mb,5,none⟩ (.int .i64 7)):=(Fr.refl _ _).setCell (p:=⟨mb,5,none⟩) (.inl (by simp)) _
 have hms: ∀k∈F1++F2,k∈F2++(F1++S):=fun k hk=>by rcases List.mem_append.1 hk with hk|hk<;>simp[hk]
 have hnm: ∀k∈F1++F2,k ∉ [mb]:=fun k hk hg=>by
  rw[List.mem_singleton.1 hg] at hk
  exact HM8.out.sep.2 4 0 mb (by decide) (hms mb hk) (by simp)
 refine Yes.of (S':=F1++F2) (HM8.out.cells (q':={q with stage:= .int .i64 7,lits:= .pointer (some ⟨t1,0,none⟩),dists:= .pointer (some ⟨t2,0,none⟩)}) (f':=true) (st':= .sym fixL fixD) hf9 (fun k hk=> .inl (List.mem_singleton.1 hk)) (HM8.out.own.set 5 _ (by simp[mcs])) ⟨rfl,t1,F1,t2,F2,rfl,rfl,HT8.out.fr hf9 (fun k hk=>hnm k (by simp[hk])),HU8.out.fr hf9 (fun k hk=>hnm k (by simp[hk])),fun k hk=>hk⟩ (fun k hk=>⟨by have:=HM8.out.sep.1 4 k (hms k hk);simpa using this,.inl (hms k hk)⟩)) ⟨HF8.out.setCell (p:=⟨mb,5,none⟩) (.inl (by simp)) _,New.stage (fun k hk=> ?_)⟩
 rcases List.mem_append.1 hk with hk|hk
 ·exact .inr (HN1.out k hk)
 ·exact .inr (HN2.out k hk)
set_option maxHeartbeats 4000000 in
theorem block_dyn1 (w:World) (h:Maq w mb rb wb RF S vo q ⟨f,T,.block⟩ R O) (hR:3≤R.length) (hx:val (R.take 3)=5):Calls Tryz.prog 53 #[.pointer (some ⟨mb,0,none⟩)] w (Yes (mb::(RF++wb::(obk vo++S))) mb ⟨true,T,.counts⟩ (R.drop 3) O w):=by
 have k1:=h.own.1 1 _ rfl
 have HB:=Lib.hid (bits_yes RF rb R 3 w h.rd (by decide) hR)
 have HM:=Lib.hid h
 rw[hx] at HB
 have z1:bits .and .u32 (5:Int) 1=1:=by decide
 have z2:(5:Int)/2=2:=by decide
 clear h hx
 go_enter Tryz.func53,Tryz.ntmps53
 go_wp2_with (fail)
 refine HB.out.mono ?_
 rintro e w1 ⟨rfl,hr1,hf1⟩
 have HM1:=Lib.hid (HM.out.read1 hr1 hf1)
 have HF1:=Lib.hid (hf1.weak (G:=mb::(RF++wb::(obk vo++S))) (fun x hx _=>by rw[List.mem_singleton.1 hx];exact HM.out.foot.2.1))
 clear hr1 hf1 k1 HB
 have k6:=HM1.out.own.1 6 _ rfl
 have f6:=HM1.out.own.2 6
 go_upto_region 5 with (fail)
 have HM2:=Lib.hid (HM1.out.set (q':=q) (f':=true) (st':= .block) 6 (.bool true) rfl (by decide) HM1.out.st)
 have HF2:=Lib.hid (HF1.out.setCell (p:=⟨mb,6,none⟩) (.inl (by simp)) (.bool true))
 clear k6 f6 HM1 HF1
 generalize w1.setCell ⟨mb,6,none⟩ (.bool true)=w2 at*
 have HG:=Lib.hid (goOn_any 3 _ w2 HM2.out.own rfl)
 go_wp2_with (fail)
 refine HG.out.mono ?_
 rintro e w4 ⟨rfl,rfl⟩
 go_wp2_with (fail)
 go_ret
 exact Yes.of (HM2.out.set (q':={q with stage:= .int .i64 3}) (f':=true) (st':= .counts) 5 _ rfl (by decide) rfl) ⟨HF2.out.setCell (p:=⟨mb,5,none⟩) (.inl (by simp)) _,New.refl _ _⟩
end
end Go.Proofs.YtmdgeoalamancaaGreatDoor
namespace Go.Proofs.YtmdgeoalamancaaGreatDoor
open Go.RowKit
open Bt Can Mc
theorem and16_u32 (x:Nat) (h:x<4294967296):bits .and .u32 (x:Int) 65535=((x%65536:Nat):Int):=by
 unfold bits
 have e1:(BitVec.ofInt 32 (x:Int)&&& BitVec.ofInt 32 65535).toNat=x%65536:=by
  rw[BitVec.toNat_and,show (BitVec.ofInt 32 65535).toNat=2^16-1 by decide,Nat.and_two_pow_sub_one_eq_mod,BitVec.ofInt_natCast,BitVec.toNat_ofNat,show x%2^32=x from Nat.mod_eq_of_lt h]
 show IntKind.u32.wrap (((BitVec.ofInt 32 (x:Int)&&& BitVec.ofInt 32 65535).toNat:Nat):Int)=_
 rw[e1,u32_wrap _ (by omega)]
theorem not_u32 (x:Nat) (h:x<4294967296):bits .xor .u32 IntKind.u32.max (x:Int)=((4294967295-x:Nat):Int):=by
 unfold bits
 have e1:(BitVec.ofInt 32 IntKind.u32.max^^^BitVec.ofInt 32 (x:Int)).toNat=4294967295-x:=by
  rw[show BitVec.ofInt 32 IntKind.u32.max=BitVec.allOnes 32 by decide,BitVec.allOnes_xor,BitVec.toNat_not,BitVec.ofInt_natCast,BitVec.toNat_ofNat,show x%2^32=x from Nat.mod_eq_of_lt h]
 show IntKind.u32.wrap (((BitVec.ofInt 32 IntKind.u32.max^^^BitVec.ofInt 32 (x:Int)).toNat:Nat):Int)=_
 rw[e1,u32_wrap _ (by omega)]
section
variable {mb rb wb:Nat} {RF S:List Nat} {vo:Value} {q:Qv} {f:Bool} {T:List Nat} {R:List Bool} {O:List Nat}
set_option maxHeartbeats 4000000 in
theorem ssize_yes (n:Nat) (w:World) (h:Maq w mb rb wb RF S vo q ⟨f,T,.size⟩ R O) (hR:32≤R.length) (hn:n<65536) (hx:val (R.take 32)=n+(65535-n)*65536):Calls Tryz.prog 54 #[.pointer (some ⟨mb,0,none⟩)] w (Yes (mb::(RF++wb::(obk vo++S))) mb ⟨f,T,.bytes n⟩ (R.drop 32) O w):=by
 have k1:=h.own.1 1 _ rfl
 have HB:=Lib.hid (bits_yes RF rb R 32 w h.rd (by decide) hR)
 have HM:=Lib.hid h
 obtain⟨X,hX⟩: ∃z,n+(65535-n)*65536=z:=⟨_,rfl⟩
 rw[hx,hX] at HB
 have z1:=and16_u32 X (by omega)
 rw[show X%65536=n by omega] at z1
 have z3:=not_u32 X (by omega)
 obtain⟨Y,hY⟩: ∃z,4294967295-X=z:=⟨_,rfl⟩
 rw[hY] at z3
 have z2:((Y:Nat):Int)/65536=(n:Int):=by omega
 have z5:((n:Int) != (n:Int))=false:=by simp
 have z6:IntKind.u32.signed=false:=rfl
 have z4:IntKind.i64.wrap (n:Int)=(n:Int):=IntWalk.i64_in _ (by omega)
 clear h hx hX hY
 go_enter Tryz.func54,Tryz.ntmps54
 go_wp2_with (fail)
 refine HB.out.mono ?_
 rintro e w1 ⟨rfl,hr1,hf1⟩
 have HM1:=Lib.hid (HM.out.read1 hr1 hf1)
 have HF1:=Lib.hid (hf1.weak (G:=mb::(RF++wb::(obk vo++S))) (fun x hx _=>by rw[List.mem_singleton.1 hx];exact HM.out.foot.2.1))
 clear hr1 hf1 k1 HB
 have k7:=HM1.out.own.1 7 _ rfl
 have f7:=HM1.out.own.2 7
 go_upto_region 7 with (fail)
 have HM2:=Lib.hid (HM1.out.set (q':={q with left:= .int .i64 (n:Nat)}) (f':=f) (st':= .size) 7 (.int .i64 (n:Nat)) rfl (by decide) HM1.out.st)
 have HF2:=Lib.hid (HF1.out.setCell (p:=⟨mb,7,none⟩) (.inl (by simp)) (.int .i64 (n:Nat)))
 clear k7 f7 HM1 HF1
 generalize w1.setCell ⟨mb,7,none⟩ (.int .i64 (n:Nat))=w2 at*
 have HG:=Lib.hid (goOn_any 2 _ w2 HM2.out.own rfl)
 go_wp2_with (fail)
 refine HG.out.mono ?_
 rintro e w4 ⟨rfl,rfl⟩
 go_wp2_with (fail)
 go_ret
 exact Yes.of (HM2.out.set (q':={q with stage:= .int .i64 2,left:= .int .i64 (n:Nat)}) (f':=f) (st':= .bytes n) 5 _ rfl (by decide) ⟨rfl,rfl⟩) ⟨HF2.out.setCell (p:=⟨mb,5,none⟩) (.inl (by simp)) _,New.refl _ _⟩
theorem sbytes_end (w:World) (h:Maq w mb rb wb RF S vo q ⟨f,T,.bytes 0⟩ R O):Calls Tryz.prog 55 #[.pointer (some ⟨mb,0,none⟩)] w (Yes (mb::(RF++wb::(obk vo++S))) mb ⟨f,T,if f then .ended else .block⟩ (if f then R.drop (R.length%8) else R) O w):=by
 have k7:=h.own.1 7 (.int .i64 0) (by rw[show Value.int .i64 0=q.left from h.st.2.symm];rfl)
 have hE:=endB_any w h
 obtain⟨st2,hst⟩: ∃z,(if f then St.ended else St.block)=z:=⟨_,rfl⟩
 obtain⟨R2,hR2⟩: ∃z,(if f then R.drop (R.length%8) else R)=z:=⟨_,rfl⟩
 simp only at hE
 rw[hst,hR2] at hE ⊢
 have HE:=Lib.hid hE
 have HF:=Lib.hid h.foot
 clear h hE hst hR2
 go_enter Tryz.func55,Tryz.ntmps55
 go_wp2_with (fail)
 refine HE.out.mono ?_
 rintro e w1 ⟨rfl,⟨q1,hm1⟩,hf1⟩
 have HM1:=Lib.hid hm1
 have HF1:=Lib.hid hf1
 clear hm1 hf1
 go_wp2_with (fail)
 go_ret
 exact Yes.of HM1.out (Mv.sub HF1.out (fun k hk=>by
  rcases List.mem_cons.1 hk with h1|h1
  ·rw[h1];exact HF.out.1
  ·rw[List.mem_singleton.1 h1];exact HF.out.2.1) (New.refl _ _))
theorem sbytes_no (left:Nat) (w:World) (h:Maq w mb rb wb RF S vo q ⟨f,T,.bytes (left+1)⟩ R O) (hR:R.length=0):Calls Tryz.prog 55 #[.pointer (some ⟨mb,0,none⟩)] w (No (mb::(RF++wb::(obk vo++S))) mb ⟨f,T,.bytes (left+1)⟩ R O w):=by
 have k1:=h.own.1 1 _ rfl
 have k7:=h.own.1 7 (.int .i64 ((left+1:Nat):Int)) (by rw[show Value.int .i64 ((left+1:Nat):Int)=q.left from h.st.2.symm];rfl)
 have HL:=Lib.hid (left_any RF rb R w h.rd)
 rw[hR] at HL
 have HM:=Lib.hid h
 clear h
 obtain⟨L,hL⟩: ∃z,left+1=z:=⟨_,rfl⟩
 rw[hL] at k7
 have d1:((L:Int)==0)=false:=by simp;omega
 have d1':(L==0)=false:=by simp;omega
 clear hL
 go_enter Tryz.func55,Tryz.ntmps55
 go_wp2_with (fail)
 refine HL.out.mono ?_
 rintro e w1 ⟨rfl,hb1⟩
 have HB1:=Lib.hid hb1
 clear hb1
 go_wp2_with (fail)
 go_ret
 exact⟨by rfl,(HM.out.below HB1.out).ma,Fr.of_below HB1.out⟩
set_option maxHeartbeats 4000000 in
theorem sbytes_yes (left:Nat) (w:World) (h:Maq w mb rb wb RF S vo q ⟨f,T,.bytes left⟩ R O) (hl:1≤left) (hlm:left≤65535) (hR:8≤R.length) (h8:R.length%8=0) (hT:T.length+min left (R.length/8)≤30000) (hO:O.length+min left (R.length/8)≤30000):Calls Tryz.prog 55 #[.pointer (some ⟨mb,0,none⟩)] w fun e w'=> ∃l R2,l.length=min left (R.length/8)∧R=byts l++R2∧(∀x∈l,x<256)∧Yes (mb::(RF++wb::(obk vo++S))) mb ⟨f,T++l,.bytes (left-l.length)⟩ R2 (O++l) w e w':=by
 have hTl:T.length≤30000:=h.len
 obtain⟨M,hM⟩: ∃z,min left (R.length/8)=z:=⟨_,rfl⟩
 have hMl:M≤left:=by rw[←hM];exact Nat.min_le_left _ _
 rw[hM] at hT hO ⊢
 have k1:=h.own.1 1 _ rfl
 have k7:=h.own.1 7 (.int .i64 (left:Nat)) (by rw[←h.st.2];rfl)
 have HL:=Lib.hid (left_any RF rb R w h.rd)
 have HLF:=Lib.hid h.st.2
 have HM:=Lib.hid h
 have HRM:=Lib.hid (fun (W:World) (hW:Below w.heap.size w W)=>room_any W (h.below hW))
 have d1:((left:Int)==0)=false:=by simp;omega
 have d1':(left==0)=false:=by simp;omega
 have hrp:R.length≠0:=by omega
 have d2:((R.length:Int)==0)=false:=by rw[beq_eq_false_iff_ne];omega
 have d2':(R.length==0)=false:=by rw[beq_eq_false_iff_ne];exact hrp
 have d3:(((1048576-T.length:Nat):Int)==0)=false:=by simp;omega
 have d3':(1048576-T.length==0)=false:=by simp;omega
 have qm:(if 1048576-T.length<left then ((1048576-T.length:Nat):Int) else ((left:Nat):Int))=((left:Nat):Int):=by rw[if_neg (by omega)]
 clear h
 go_enter Tryz.func55,Tryz.ntmps55
 go_wp2_with (fail)
 refine HL.out.mono ?_
 rintro e w1 ⟨rfl,hb1⟩
 have HB1:=Lib.hid hb1
 have HR1:=Lib.hid (HRM.out w1 hb1)
 clear hb1 HL
 go_wp2_with (fail)
 refine HR1.out.mono ?_
 rintro e w2 ⟨rfl,n2,hw2⟩
 have HB2:Hid (Below w.heap.size w w2):=Lib.hid (by rw[hw2];exact below_drewN HB1.out n2)
 clear hw2 HR1 HB1 k1 k7
 go_upto_region 7 with (fail)
 have HM2:=Lib.hid (HM.out.below HB2.out)
 have HF2:=Lib.hid (Fr.of_below (F:=mb::(RF++wb::(obk vo++S))) HB2.out)
 have HRM2:=Lib.hid (fun (W:World) (hW:Below w2.heap.size w2 W)=>room_any W (HM2.out.below hW))
 clear HB2 HRM
 have HF0:=HM.out.foot
 clear HM
 have HM:Hid (Maq w2 mb rb wb RF S vo q ⟨f,T,.bytes left⟩ R O):=HM2
 have HRM:Hid (∀W,Below w2.heap.size w2 W→_):=HRM2
 clear HM2 HRM2
 refine Mono.region_tail 11 (by kernel_rfl) (by kernel_rfl) (by kernel_rfl) (by kernel_rfl) ?_
 simp only[List.take_succ_cons,List.take_zero]
 refine Mono.hgl_val (v:= ?v0) rfl Mono.rr (fun ρ a W hR hd hf=> ?h0) ?_
 case h0=>
  have e0:=Mono.init_get hf (t:=0) (by kernel_rfl)
  clear hd hf
  (go_simp;try with_reducible rfl)
 refine Mono.hgl_val (v:= ?v1) rfl Mono.rr (fun ρ a W hR hd hf=> ?h1) ?_
 case h1=>
  have e22:=Mono.dep_val hd hf (t:=22) (k:=0) (by kernel_rfl) rfl
  clear hd hf
  (go_simp;try with_reducible rfl)
 refine Mono.hgl_val (v:= ?v2) rfl Mono.rr (fun ρ a W hR hd hf=> ?h2) ?_
 case h2=>
  have e23:=Mono.dep_val hd hf (t:=23) (k:=1) (by kernel_rfl) rfl
  clear hd hf
  (go_simp;try with_reducible rfl)
 refine Mono.hgl_val (v:= ?v3) rfl Mono.rr (fun ρ a W hR hd hf=> ?h3) ?_
 case h3=>
  have e24:=Mono.dep_val hd hf (t:=24) (k:=2) (by kernel_rfl) rfl
  have c1:=(HM.out.own.below hR HM.out.lt).1 1 _ rfl
  clear hd hf
  (go_simp;try with_reducible rfl)
 refine Mono.hgl_val (v:= ?v4) rfl Mono.rr (fun ρ a W hR hd hf=> ?h4) ?_
 case h4=>
  have e0:=Mono.init_get hf (t:=0) (by kernel_rfl)
  clear hd hf
  (go_simp;try with_reducible rfl)
 refine Mono.hgl_val (v:= ?v5) rfl Mono.rr (fun ρ a W hR hd hf=> ?h5) ?_
 case h5=>
  have e26:=Mono.dep_val hd hf (t:=26) (k:=4) (by kernel_rfl) rfl
  clear hd hf
  (go_simp;try with_reducible rfl)
 refine Mono.hgl_val (v:= ?v6) rfl Mono.rr (fun ρ a W hR hd hf=> ?h6) ?_
 case h6=>
  have e27:=Mono.dep_val hd hf (t:=27) (k:=5) (by kernel_rfl) rfl
  clear hd hf
  (go_simp;try with_reducible rfl)
 refine Mono.hgl_val (v:= ?v7) rfl Mono.rr (fun ρ a W hR hd hf=> ?h7) ?_
 case h7=>
  have e28:=Mono.dep_val hd hf (t:=28) (k:=6) (by kernel_rfl) rfl
  have c7:=(HM.out.own.below hR HM.out.lt).1 7 (.int .i64 (left:Nat)) (by rw[←HLF.out];rfl)
  clear hd hf
  (go_simp;try with_reducible rfl)
 refine Mono.hgl_val (v:= ?v8) rfl Mono.rr (fun ρ a W hR hd hf=> ?h8) ?_
 case h8=>
  have e0:=Mono.init_get hf (t:=0) (by kernel_rfl)
  clear hd hf
  (go_simp;try with_reducible rfl)
 refine Mono.hgl_call (fun x _=>x= .int .i64 ((1048576-T.length:Nat):Int)) rfl Mono.rr (fun _ _ _ h _=>h) (fun ρ a W hR hd hf=> ?h9) ?_
 case h9=>
  have e30:=Mono.dep_val hd hf (t:=30) (k:=8) (by kernel_rfl) rfl
  clear hd hf
  refine⟨_,_,by go_simp;first|rfl|exact⟨rfl,rfl⟩,?_⟩
  exact (HRM.out W hR).mono (fun e W' ⟨he,n,hw⟩=>⟨_,he,by rw[hw];exact below_drewN (Below.refl _ _) n,rfl⟩)
 refine Mono.hgl_val (v:= ?v10) rfl Mono.rr (fun ρ a W hR hd hf=> ?h10) ?_
 case h10=>
  have e29:=Mono.dep_val hd hf (t:=29) (k:=7) (by kernel_rfl) rfl
  have e31:=Mono.dep_val hd hf (t:=31) (k:=9) (by kernel_rfl) rfl
  clear hd hf
  (go_simp;try with_reducible rfl)
 refine Mono.hgl_done rfl (by decide) (fun ρ W hR ht=> ?_)
 simp only[List.take_succ_cons,List.take_zero,List.drop_succ_cons,List.drop_zero]
 obtain⟨d10,d9,d8,d7,d6,d5,d4,d3,d2,d1,d0,_⟩:=ht
 simp only[List.length_cons,List.length_nil,Nat.reduceAdd] at d0 d1 d2 d3 d4 d5 d6 d7 d8 d9 d10
 simp only[Mono.putAll,Nat.reduceAdd,d0,d1,d2,d3,d4,d5,d6,d7,d8,d9,d10,Act.put,List.setIfInBounds_toArray,List.set_cons_zero,List.set_cons_succ]
 clear d0 d1 d2 d3 d4 d5 d6 d7 d8 d9 d10
 have HM3:=Lib.hid (HM.out.below hR)
 have HF3:=Lib.hid (HF2.out.trans (Fr.of_below (F:=[]) hR) (fun x hx _=>by cases hx))
 have HBY:=Lib.hid (rbytes_any RF rb R left W HM3.out.rd (by omega))
 clear hR HM HRM HF2
 go_wp2_with (fail)
 refine HBY.out.mono ?_
 rintro e w4 ⟨v4,l,R2,rfl,hll,hRR,hr4,hv4,hl256,hf4⟩
 rw[hM] at hll
 rw[h8,List.drop_zero] at hRR
 have HM4:=Lib.hid (HM3.out.read1 hr4 hf4)
 have HF4:=Lib.hid (HF3.out.trans hf4 (fun x hx _=>by rw[List.mem_singleton.1 hx];exact HF0.2.1))
 have HV4:=Lib.hid (hv4.mono HF3.out.size)
 have HW3:=Lib.hid (fun k hk=>Nat.lt_of_lt_of_le (HM3.out.sep.1 3 k hk) (Nat.le_refl _))
 have hgv: ∀k∈obk v4,W.heap.size≤k∧k<w4.heap.size:=fun k hk=>hv4.lt k (mem_obk.1 hk)
 have HGV:=Lib.hid hgv
 have HRR:=Lib.hid hRR
 obtain⟨a4,c4,rfl,_⟩:=hv4.form
 obtain⟨ll,hlln⟩: ∃z,l.length=z:=⟨_,rfl⟩
 have HLL:=Lib.hid hlln
 rw[hlln] at hll HV4 HGV ⊢
 have HMM:=Lib.hid hM
 clear hM
 subst hll
 have q1:IntKind.i64.wrap ((left:Int)-(ll:Int))=((left-ll:Nat):Int):=by rw[IntWalk.i64_in _ (by omega)];omega
 have k7:=HM4.out.own.1 7 (.int .i64 (left:Nat)) (by rw[←HLF.out];rfl)
 have f7:=HM4.out.own.2 7
 have hz3:mb<W.heap.size:=HM3.out.lt
 have hz3w:wb<W.heap.size:=HM3.out.win.lt
 clear hr4 hf4 hv4 hRR hgv HBY HM3 HF3 hlln
 go_upto_region 9 with (fail)
 have hf5:Fr [mb] w4 (w4.setCell ⟨mb,7,none⟩ (.int .i64 ((left-ll:Nat):Int))):=(Fr.refl _ _).setCell (p:=⟨mb,7,none⟩) (.inl (by simp)) _
 have HM5:=Lib.hid (HM4.out.set (q':={q with left:= .int .i64 ((left-ll:Nat):Int)}) (f':=f) (st':= .bytes (left-ll)) 7 (.int .i64 ((left-ll:Nat):Int)) rfl (by decide) ⟨HM4.out.st.1,rfl⟩)
 have HF5:=Lib.hid (HF4.out.trans hf5 (fun x hx _=>by rw[List.mem_singleton.1 hx];exact HF0.1))
 have HV5:=Lib.hid (HV4.out.fr hf5 (fun k hk=>by rw[List.mem_singleton];have:=HGV.out k hk;omega))
 clear k7 f7 HM4 HF4 HV4 hf5
 have hz5:w4.heap.size≤(w4.setCell ⟨mb,7,none⟩ (.int .i64 ((left-ll:Nat):Int))).heap.size:=by simp
 generalize w4.setCell ⟨mb,7,none⟩ (.int .i64 ((left-ll:Nat):Int))=w5 at*
 have HPU:=Lib.hid (mput_any l ll (.slice a4 ll c4) w5 HM5.out (fun V hV=>(HV5.out.fr hV (fun k hk=>by
  have hg:=HGV.out k hk
  rw[List.mem_cons,List.mem_cons]
  rintro (h1|h1|h1)
  ·omega
  ·omega
  ·have:=HW3.out k h1
   omega)).sl) HLL.out.symm (hT) (hO))
 go_wp2_with (fail)
 refine HPU.out.mono ?_
 rintro e w6 ⟨rfl,vo',hm6,hv6⟩
 have HM6:=Lib.hid hm6
 have HV6:=Lib.hid hv6
 clear hm6 hv6 HPU
 go_wp2_with (fail)
 go_ret
 refine⟨l,R2,HLL.out,HRR.out,hl256,?_⟩
 rw[HLL.out]
 exact Yes.of HM6.out (Mv.trans ⟨HF5.out,New.refl _ _⟩ HV6.out)
end
end Go.Proofs.YtmdgeoalamancaaGreatDoor
