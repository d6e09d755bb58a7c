/- Part 14 of the lemmas below the statements of this seat: TollWalkB, TollAll, R21A, TollChainL, TollAllL, TollSpan. -/
import Derived.Test.YtkpioblbeiaefaaGreatPb13
set_option linter.unusedSectionVars false
set_option linter.unusedVariables false
set_option linter.unusedSimpArgs false
set_option linter.unnecessarySimpa false
set_option maxRecDepth 100000
section
namespace Go.Toll
open Go Go.Abs
def jl (l:List aC):Nat→List (Bytes×Int)
 | 0=>[]
 | i+1=>match l[i]? with
  | some p=>sJ (jl l i) p.id p.cls
  | none=>jl l i
def qd (m:List (Bytes×Int))(id:Bytes):Int:=(iW m id).getD 0
def OC (v:bv)(l:List aC):List Nat:=oL (gL v l) l.length
def fD (v:bv)(l:List aC):List aC:=uK (OC v l) l l.length
def eZ (v:bv)(l:List aC):List fI:=kZ (OC v l) l l.length
def lm (t:bn)(l:List aC):List bq:=(fV (aI t).net (fD (aI t).net (aX t l))).1
def bY (t:bn)(l:List aC)(veh:Bytes):dG:=Ca t veh (qd (jl l l.length)) (dQ t l (eZ (aI t).net (aX t l))) (lm t l)
theorem QL {l:List aC} {i:Nat} {p:aC} (h:l[i]? =some p):jl l (i+1)=sJ (jl l i) p.id p.cls:=by rw [jl,h]
theorem xk {t:bn} {l:List aC} {i:Nat} {p:aC} (h:l[i]? =some p):fG t (l.take (i+1))=if kindOf t p.point=0 then fG t (l.take i)++[⟨p.id,3⟩] else fG t (l.take i):=by
 rw [zM,h];by_cases c:kindOf t p.point=0 <;> simp [fG,c]
theorem uP {t:bn} {l:List aC} {i:Nat} {p:aC} (h:l[i]? =some p):aX t (l.take (i+1))=if kindOf t p.point=0 then aX t (l.take i) else aX t (l.take i)++[p]:=by
 rw [zM,h];by_cases c:kindOf t p.point=0 <;> simp [aX,c]
theorem qU (t:bn)(l:List aC):(fG t l).length≤l.length:=by rw [fG,List.length_map];exact List.length_filter_le _ _
theorem iI (t:bn)(l:List aC):(aX t l).length≤l.length:=List.length_filter_le _ _
theorem oJ {t:bn} {l:List aC} {p:aC} (h:p∈aX t l):p∈l:=(List.mem_filter.1 h).1
theorem nW {v:bv} {l:List aC} {p:aC} (h:p∈fD v l):p∈l:=Jt h
theorem yN {v:bv} {l:List aC} (h:gT v l=0) {p:aC} (hp:p∈l):aL v.pts p.point=true∧0≤p.time∧p.time<68719476736:=by
 obtain⟨i,hi,rfl⟩:=List.mem_iff_getElem.1 hp;have h0:gP v none l=0:=by
  unfold gT at h;split at h
  ·cases h
  ·exact h
 have h1:=Ii h0 i (by omega);rw [nQ (zB hi)] at h1;split at h1
 ·cases h1
 split at h1
 ·cases h1
 rename_i a b;refine⟨by simpa using a,?_⟩;unfold bS at b;simp at b;exact b
structure StopB (v:bv)(l:List aC)(x:bq):Prop where
 time:0≤x.time∧x.time<68719476736
 point:aL v.pts x.point=true
 pass:x.pass=[]∨ ∃p∈l,x.pass=p.id
theorem RY {v:bv} (ok:aY v) {a p:aC} (ha:0≤a.time)(hp:p.time<68719476736) {l:List aC}: ∀x∈ni v a p,StopB v l x:=by
 intro x hx;have h1:=(Qb ok a p).2 x hx;have h2:=GQ a p x hx;refine⟨by omega,?_,.inl h2⟩;unfold ni at hx;split at hx
 ·cases hx
 ·rename_i h;have h0:(fP v a.point p.point a.time p.time).2=0:=by simpa using h
  obtain⟨b1,_⟩:=yH ok h0;generalize (fP v a.point p.point a.time p.time).1=m at*;obtain⟨a',l',s,hp',hall,_⟩:=uo b1;rw [lC,List.mem_map] at hx;obtain⟨i,hi,rfl⟩:=hx;have hi':=List.mem_range.1 hi;refine hall _ ?_;rw [←hp'];refine List.mem_cons_of_mem _ (List.mem_append_left _ ?_);show m.getD i []∈m;rw [List.getD_eq_getElem?_getD,zB hi'];exact List.getElem_mem hi'
theorem Rq {v:bv} {l:List aC} (h:gT v l=0) {p:aC} (hp:p∈l):StopB v l (iX p):=
 ⟨(yN h hp).2,(yN h hp).1,.inr ⟨p,hp,rfl⟩⟩
theorem Av {v:bv} (ok:aY v) {l:List aC} (h:gT v l=0): ∀i:Nat,∀x∈dP v l i,StopB v l x
 | 0,x,hx=>by simp [dP] at hx
 | i+1,x,hx=>by
  rw [dP] at hx;split at hx
  ·rename_i p hp;rcases List.mem_append.1 hx with hx | hx
   ·exact Av ok h i x hx
   ·rcases List.mem_append.1 hx with hx | hx
    ·cases i with
     | zero=>cases hx
     | succ j=>
      simp only at hx;split at hx
      ·rename_i a ha;exact RY ok (yN h (zF ha)).2.1 (yN h (zF hp)).2.2 x hx
      ·cases hx
    ·obtain rfl:=List.mem_singleton.1 hx;exact Rq h (zF hp)
  ·exact Av ok h i x hx
theorem oU {v:bv} (ok:aY v) {l:List aC}:(∀x∈(fV v l).1,StopB v l x)∧(fV v l).1.length≤17*l.length:=by
 unfold fV;split
 ·simp
 ·rename_i h;exact⟨Av ok (by simpa using h) l.length,sV ok l.length⟩
structure VB (n:Nat)(S:List bq)(w:dG):Prop where
 trips:w.trips.length≤n
 out:w.out.length+w.opn.length≤n+200
 opn:w.opn.length≤n
 all: ∀x∈w.opn,x∈S
 before:w.before.length≤1000000
 last:w.last.length≤1000000
theorem VA {n:Nat} {S:List bq} {w:dG} (h:VB n S w) {t:bn} {veh:Bytes} {cls:Bytes→Int} {s:bq} (hs:s∈S):VB (n+1) S (jJ t veh cls w s):=by
 obtain⟨h1,h2,h3,h4,h5,h6⟩:=h;have e:=fH 11 w.opn;have e1:=fH 10 [s];have e2:=fH 12 [s];unfold jJ;split
 ·exact⟨by simp;omega,by simp;omega,by simp;omega,h4,h5,h6⟩
 ·exact⟨by simp;omega,by simp;omega,by simp,by simp [hs],h6,h6⟩
 ·exact⟨by simp;omega,by simp;omega,by simp,by simp,h5,h6⟩
 ·refine⟨by simp;omega,by simp;omega,by simp;omega,fun x hx=> ?_,h5,h6⟩;rcases List.mem_append.1 hx with hx | hx
  ·exact h4 x hx
  ·obtain rfl:=List.mem_singleton.1 hx;exact hs
 ·exact⟨by simp;omega,by simp at*;omega,by simp,by simp,h5,h6⟩
 ·exact⟨by simp;omega,by simp at*;omega,by simp;omega,h4,h5,h6⟩
theorem Uo {n:Nat} {S:List bq} {w:dG} (h:VB n S w) {t:bn} {veh:Bytes} {cls:Bytes→Int} {s:bq} (hs:s∈S)(hp:s.pass.length≤1000000):VB (n+1) S (dA t veh cls w s):=by
 have:=VA h (t:=t) (veh:=veh) (cls:=cls) hs;unfold dA;split
 ·exact this
 ·exact⟨this.trips,this.out,this.opn,this.all,this.before,hp⟩
theorem FK {S:List bq} {w:dG} {t:bn} {veh:Bytes} {cls:Bytes→Int} (h:VB 0 S w)(hp: ∀s∈S,s.pass.length≤1000000): ∀i:Nat,i≤S.length→VB i S ((S.take i).foldl (dA t veh cls) w)
 | 0,_=>by simpa using h
 | i+1,hi=>by
  obtain⟨s,hs,_⟩:=aN (l:=S) (i:=i) (by omega);have ih:=FK h hp i (by omega) (t:=t) (veh:=veh) (cls:=cls);rw [zM,hs,List.foldl_append];exact Uo ih (zF hs) (hp s (zF hs))
theorem DN {S:List bq} {w:dG} {t:bn} {veh:Bytes} {cls:Bytes→Int} {i:Nat} {s:bq} (hs:S[i]? =some s):(S.take (i+1)).foldl (dA t veh cls) w=dA t veh cls ((S.take i).foldl (dA t veh cls) w) s:=by
 rw [zM,hs,List.foldl_append];rfl
theorem Ls.lendG {n lo:Nat} {h:ak} {x:AV} {es:List (List AV)} (r:Ls n lo h x es): ∃ks,gq ks h x (.ro es)∧Grow lo h x (killL h ks)∧(killL h ks).length=h.length:=by
 obtain⟨ks,hks,hf⟩:=r.lend;refine⟨ks,hf,⟨fun b o hb hne=> ?_,fun h₀ hl₀ hg=> ?_,by rw [iT];exact Nat.le_refl _⟩,iT _ _⟩
 ·rw [iH ks h b fun hb=> ?_]
  ·exact hb
  ·obtain⟨_,off,len,e⟩:=hks b hb;exact hne off len e
 ·obtain⟨g,rfl⟩:=hg;exact jk ks h₀ g fun b hb=>by have:=(hks b hb).1;omega
theorem xZ.grow {t:bn} {veh:Bytes} {mb:Nat} {m:List (Bytes×Int)} {b lo lo' n:Nat} {H H':ak} {tr ou op:AV} {w:dG} (h:xZ t veh mb m b lo H tr ou op w) {y:AV} {es:List (List AV)} (hy:Ls n lo' H y es)(hn:n≠10∧n≠5∧n≠2)(g:Grow lo' H y H'):
  xZ t veh mb m b lo H' tr ou op w:=
 ⟨g.keep b _ h.blk (oM hy h.blk (Ne.symm hn.1)),g.keep mb _ h.mp (lL hy h.mp),fO h.trips hy (Ne.symm hn.2.1) g,fO h.out hy (Ne.symm hn.2.2) g,h.low,h.lom⟩
theorem OT {t:bn} {q:Pt} (h:q∈(aI t).net.pts):q∈t.net.pts:=by
 unfold aI at h;split at h
 ·exact h
 ·cases h
theorem JE {n lo:Nat} {H:ak} {x:AV} {es:List (List AV)} {k:Nat} (hx:Ls n lo H x es)(hk: ∀off len,x≠ .own k off len)(o:cZ):Ls n lo (H.set k o) x es:=by
 obtain⟨h1,h2⟩:=hx;refine⟨?_,h2⟩;rcases h1 with h1 | ⟨b',e,hl,hb'⟩
 ·exact .inl h1
 ·refine .inr ⟨b',e,hl,?_⟩;have:k≠b':=by
   rintro rfl;exact hk _ _ e
  rw [zJ this];exact hb'
theorem xZ.putM {t:bn} {veh:Bytes} {mb:Nat} {m:List (Bytes×Int)} {b lo:Nat} {H:ak} {tr ou op:AV} {w:dG} (h:xZ t veh mb m b lo H tr ou op w)(m':List (Bytes×Int)):xZ t veh mb m' b lo (H.set mb (.map (sM encZ' m'))) tr ou op w:=
 ⟨by rw [zJ (Ne.symm (pV h.blk h.mp))];exact h.blk,zI (aK h.mp),JE h.trips (lL h.trips h.mp) _,JE h.out (lL h.out h.mp) _,h.low,h.lom⟩
def MR (a b:Bytes):Bytes:=if a=[] then b else a
def IW (p:aC):Bytes:=MR p.tag p.plate
def sZ (l:List aC):Bytes:=match l with
 | []=>[]
 | a::r=>IW (((a::r).find? fun p=> !decide (p.tag=[])).getD a)
def xS (l:List aC)(s:Bytes):List Bytes:=(l.filter fun q=>decide (q.plate=s) && !decide (q.tag=[])).map (·.tag)
def qw:List Bytes→Option Bytes
 | []=>none
 | t::r=>some (if r.all (fun u=>decide (u=t))=true then t else [])
def tL (l:List aC)(s:Bytes):Option Bytes:=qw (xS l s)
def jN (l:List aC):Nat→List (Bytes×Bytes)
 | 0=>[]
 | i+1=>match l[i]? with
  | some p=>if p.tag=[]∨p.plate=[] then jN l i else sJ (jN l i) p.plate (if (iW (jN l i) p.plate).all (fun t=>decide (t=p.tag))=true then p.tag else [])
  | none=>jN l i
theorem vY {l:List aC} {i:Nat} {p:aC} (h:l[i]? =some p):jN l (i+1)=if p.tag=[]∨p.plate=[] then jN l i else sJ (jN l i) p.plate (if (iW (jN l i) p.plate).all (fun t=>decide (t=p.tag))=true then p.tag else []):=by rw [jN,h]
theorem IK (L:List Bytes) {u:Bytes} (hu:u≠[]):qw (L++[u])=some (if (qw L).all (fun t=>decide (t=u))=true then u else []):=by
 cases L with
 | nil=>simp [qw]
 | cons t r=>
  show qw (t::(r++[u]))=_;by_cases h:r.all (fun u=>decide (u=t))=true
  ·have e1:qw (t::r)=some t:=by rw [qw,if_pos h]
   rw [e1,qw,List.all_append,h];by_cases c:t=u
   ·subst c;simp
   ·have c': ¬u=t:=fun e=>c e.symm;simp [c,c']
  ·have h2:r.all (fun u=>decide (u=t))=false:=by simpa using h
   have e1:qw (t::r)=some []:=by rw [qw,if_neg h]
   have c: ¬([]:Bytes)=u:=fun e=>hu e.symm;rw [e1,qw,List.all_append,h2];simp [c]
theorem IL {l:List aC} {i:Nat} {p:aC} (h:l[i]? =some p)(s:Bytes):xS (l.take (i+1)) s=if p.plate=s∧p.tag≠[] then xS (l.take i) s++[p.tag] else xS (l.take i) s:=by
 rw [zM,h];by_cases c:p.plate=s <;> by_cases d:p.tag=[] <;> simp [xS,c,d]
theorem Mx {l:List aC} {s:Bytes} (hs:s≠[]): ∀i:Nat,iW (jN l i) s=tL (l.take i) s
 | 0=>by simp [jN,iW,tL,xS,qw]
 | i+1=>by
  have ih:=Mx (l:=l) hs i
  cases hg:l[i]? with
  | none=>rw [jN,hg,zM,hg];simpa using ih
  | some p=>
   rw [vY hg,tL,IL hg];by_cases c:p.tag=[]∨p.plate=[]
   ·rw [if_pos c,ih,if_neg,tL];rintro⟨h1,h2⟩;rcases c with c | c
    ·exact h2 c
    ·exact hs (by rw [←h1,c])
   ·rw [if_neg c,zV];have c1:p.tag≠[]:=fun e=>c (.inl e);by_cases d:s=p.plate
    ·subst d;rw [if_pos (⟨rfl,c1⟩:p.plate=p.plate∧p.tag≠[]),IK _ c1,if_pos rfl,ih,tL]
    ·rw [if_neg d,if_neg (fun e=>d e.1.symm),ih,tL]
theorem Uh: ∀ {A:List Bytes} (B:List Bytes),qw A=some []→(∀t∈A,t≠[])→qw (A++B)=some []
 | [],_,h,_=>by cases h
 | t::r,B,h,hn=>by
  have ht:=hn t (by simp);simp only [qw,Option.some.injEq] at h;have h2:r.all (fun u=>decide (u=t))=false:=by
   cases e:r.all (fun u=>decide (u=t)) with
   | false=>rfl
   | true=>rw [e,if_pos rfl] at h;exact absurd h ht
  rw [List.cons_append,qw,List.all_append,h2];rfl
theorem Vu {l:List aC} {s t:Bytes} (h:t∈xS l s):t≠[]:=by
 obtain⟨p,hp,rfl⟩:=List.mem_map.1 h;have:=(List.mem_filter.1 hp).2;simp at this;exact this.2
theorem Uj (a b:List aC)(s:Bytes):xS (a++b) s=xS a s++xS b s:=by simp [xS]
def bU (l:List aC)(p:aC):Bytes:=if p.tag=[]∧p.plate≠[] then MR ((tL l p.plate).getD []) p.plate else p.tag
def JJ (l:List aC)(v:Bytes)(i:Nat):List aC:=(l.take i).filter fun p=>decide (bU l p=v)
def tT (l:List aC)(v:Bytes):List aC:=if v=[] then [] else dZ (JJ l v l.length)
theorem El {l:List aC} {v:Bytes} {i:Nat} {p:aC} (h:l[i]? =some p):JJ l v (i+1)=if bU l p=v then JJ l v i++[p] else JJ l v i:=by
 rw [JJ,zM,h];by_cases c:bU l p=v <;> simp [JJ,c]
theorem Cs (l:List aC)(v:Bytes)(i:Nat):(JJ l v i).length≤i:=Nat.le_trans (List.length_filter_le _ _) (List.length_take_le _ _)
theorem Ct {l:List aC} {v:Bytes} {i:Nat} {p:aC} (h:p∈JJ l v i):p∈l∧bU l p=v:=⟨List.mem_of_mem_take (List.mem_filter.1 h).1,by simpa using (List.mem_filter.1 h).2⟩
theorem Cu {l:List aC} {v:Bytes} {p:aC} (h:p∈tT l v):p∈l∧bU l p=v:=by
 unfold tT at h;split at h
 ·cases h
 ·exact Ct ((dW _).1 h)
theorem yL (l:List aC)(v:Bytes):(tT l v).length≤l.length:=by
 unfold tT;split
 ·simp
 ·rw [dZ,bI];exact Cs _ _ _
def jW (l:List aC):Nat→List Bytes
 | 0=>[]
 | i+1=>match l[i]? with
  | some p=>if bU l p=[]∨bU l p∈jW l i then jW l i else jW l i++[bU l p]
  | none=>jW l i
theorem RD {l:List aC} {i:Nat} {p:aC} (h:l[i]? =some p):jW l (i+1)=if bU l p=[]∨bU l p∈jW l i then jW l i else jW l i++[bU l p]:=by rw [jW,h]
def eX (l:List aC):List Bytes:=ll (jW l l.length)
theorem PT (l:List aC): ∀i:Nat,(jW l i).Nodup
 | 0=>by simp [jW]
 | i+1=>by
  have ih:=PT l i;rw [jW];split
  ·split
   ·exact ih
   ·rename_i h;rw [List.nodup_append];refine⟨ih,by simp,fun a ha b hb e=> ?_⟩;obtain rfl:=List.mem_singleton.1 hb;exact h (.inr (by rw [←e];exact ha))
  ·exact ih
theorem zh (l:List aC): ∀i:Nat,(jW l i).length≤i
 | 0=>by simp [jW]
 | i+1=>by
  have ih:=zh l i;rw [jW];split
  ·split
   ·omega
   ·simp;omega
  ·omega
theorem MJ (l:List aC)(v:Bytes): ∀i:Nat,v∈jW l i↔v≠[]∧ ∃p∈l.take i,bU l p=v
 | 0=>by simp [jW]
 | i+1=>by
  have ih:=MJ l v i;rw [jW,zM]
  cases hg:l[i]? with
  | none=>simpa using ih
  | some p=>
   have e:(∃q∈l.take i++(some p).toList,bU l q=v)↔(∃q∈l.take i,bU l q=v)∨bU l p=v:=by
    constructor
    ·rintro⟨q,hq,e⟩;rcases List.mem_append.1 hq with h | h
     ·exact .inl ⟨q,h,e⟩
     ·simp at h;subst h;exact .inr e
    ·rintro (⟨q,hq,e⟩ | e)
     ·exact⟨q,List.mem_append_left _ hq,e⟩
     ·exact⟨p,List.mem_append_right _ (by simp),e⟩
   rw [e];simp only;split
   ·rename_i h;rw [ih];constructor
    ·rintro⟨h1,h2⟩;exact⟨h1,.inl h2⟩
    ·rintro⟨h1,h2 | h2⟩
     ·exact⟨h1,h2⟩
     ·rcases h with h | h
      ·exact absurd (h2.symm.trans h) h1
      ·rw [h2] at h;exact ih.1 h
   ·rename_i h;rw [List.mem_append,ih,List.mem_singleton];constructor
    ·rintro (⟨h1,h2⟩ | h2)
     ·exact⟨h1,.inl h2⟩
     ·exact⟨fun c=>h (.inl (by rw [←h2,c])),.inr h2.symm⟩
    ·rintro⟨h1,h2 | h2⟩
     ·exact .inl ⟨h1,h2⟩
     ·exact .inr h2.symm
theorem IX (l:List aC)(v:Bytes):v∈eX l↔v≠[]∧ ∃p∈l,bU l p=v:=by
 rw [eX,Aq,MJ,List.take_length]
theorem MM (l:List aC):(eX l).Nodup:=Br (PT l _)
theorem AC (l:List aC):(eX l).length≤l.length:=by rw [eX,II];exact zh _ _
def tV (l:List aC):Nat→List Bytes
 | 0=>[]
 | i+1=>match l[i]? with
  | some p=>if bU l p=[] then tV l i else pz (tV l i) (bU l p)
  | none=>tV l i
theorem RF {l:List aC} {i:Nat} {p:aC} (h:l[i]? =some p):tV l (i+1)=if bU l p=[] then tV l i else pz (tV l i) (bU l p):=by rw [tV,h]
theorem MK (l:List aC): ∀i:Nat,oF (tV l i)∧(tV l i).Nodup∧ ∀v,v∈tV l i↔v∈jW l i
 | 0=>by simp [tV,jW,oF]
 | i+1=>by
  obtain⟨h1,h2,h3⟩:=MK l i;rw [tV,jW]
  cases hg:l[i]? with
  | none=>exact⟨h1,h2,h3⟩
  | some p=>
   simp only;by_cases c:bU l p=[]
   ·rw [if_pos c,if_pos (.inl c)];exact⟨h1,h2,h3⟩
   ·rw [if_neg c];refine⟨DZ _ h1,xn _ h2,fun v=> ?_⟩;rw [uN,h3];split
    ·rename_i h;rcases h with h | h
     ·exact absurd h c
     ·exact⟨fun q=>q.elim (fun q=>q▸h) id,.inr⟩
    ·simp [or_comm]
theorem ML (l:List aC): ∀i:Nat,(tV l i).length≤i
 | 0=>by simp [tV]
 | i+1=>by
  have ih:=ML l i;rw [tV];split
  ·split
   ·omega
   ·exact Nat.le_trans (D5 _ _) (by omega)
  ·omega
theorem Vx (l:List aC):tV l l.length=eX l:=by
 obtain⟨h1,h2,h3⟩:=MK l l.length;exact CV h1 (IG _) h2 (MM l) fun v=>by rw [h3,eX,Aq]
def fJ (t:bn)(l:List aC):dG:=bY t (bO l) (sZ (bO l))
def M0 (t:bn)(l:List aC):List dG:=(eX (bO l)).map fun v=>bY t (tT (bO l) v) v
def allT (t:bn)(l:List aC):List dB:=(M0 t l).flatMap (·.trips)
theorem uF {t:bn} {veh:Bytes} {cls:Bytes→Int}: ∀(l:List bq) (w:dG),(l.foldl (dA t veh cls) w).trips.length≤w.trips.length+l.length∧(l.foldl (dA t veh cls) w).out.length+(l.foldl (dA t veh cls) w).opn.length≤w.out.length+w.opn.length+l.length
 | [],w=>by simp
 | s::l,w=>by
  have ih:=uF (t:=t) (veh:=veh) (cls:=cls) l (dA t veh cls w s);have h:(dA t veh cls w s).trips.length≤w.trips.length+1∧(dA t veh cls w s).out.length+(dA t veh cls w s).opn.length≤w.out.length+w.opn.length+1:=by
   have e:=fH 11 w.opn;have e1:=fH 10 [s];have e2:=fH 12 [s];have key:(jJ t veh cls w s).trips.length≤w.trips.length+1∧(jJ t veh cls w s).out.length+(jJ t veh cls w s).opn.length≤w.out.length+w.opn.length+1:=by
    unfold jJ;split <;> simp <;> simp at e1 e2 <;> omega
   unfold dA;split <;> exact key
  rw [List.foldl_cons,List.length_cons];omega
theorem qG (t:bn)(l:List aC)(v:Bytes):(bY t l v).trips.length≤17*l.length∧(bY t l v).out.length≤19*l.length:=by
 have h:=uF (t:=t) (veh:=v) (cls:=qd (jl l l.length)) (lm t l) (dQ t l (eZ (aI t).net (aX t l)));have h1:=(oU (PL t) (l:=fD (aI t).net (aX t l))).2;have h2:(fD (aI t).net (aX t l)).length≤l.length:=Nat.le_trans (rW _ _ _) (iI t l);have h3:(eZ (aI t).net (aX t l)).length≤l.length:=Nat.le_trans (uV _ _ _) (iI t l);have h4:=qU t l;have e:=fH 11 ((lm t l).foldl (dA t v (qd (jl l l.length))) (dQ t l (eZ (aI t).net (aX t l)))).opn;have h5:(lm t l).length≤17*l.length:=Nat.le_trans h1 (by omega);have h6:(dQ t l (eZ (aI t).net (aX t l))).out.length≤2*l.length:=by simp [dQ];omega
 have h7:(dQ t l (eZ (aI t).net (aX t l))).trips.length=0:=rfl;have h8:(dQ t l (eZ (aI t).net (aX t l))).opn.length=0:=rfl;have e1:(bY t l v).trips=((lm t l).foldl (dA t v (qd (jl l l.length))) (dQ t l (eZ (aI t).net (aX t l)))).trips:=rfl;have e2:(bY t l v).out=((lm t l).foldl (dA t v (qd (jl l l.length))) (dQ t l (eZ (aI t).net (aX t l)))).out++dV 11 ((lm t l).foldl (dA t v (qd (jl l l.length))) (dQ t l (eZ (aI t).net (aX t l)))).opn:=rfl;rw [e1,e2,List.length_append];constructor <;> omega
theorem DF {α β:Type} {f:α→List β} {k:Nat}: ∀ {V:List α},(∀v∈V,(f v).length≤k)→(V.flatMap f).length≤V.length*k
 | [],_=>by simp
 | v::V,h=>by
  have ih:=DF (V:=V) fun x hx=>h x (by simp [hx]);have hv:=h v (by simp);rw [List.flatMap_cons,List.length_append,List.length_cons,Nat.add_mul];omega
def pg (t:bn)(l:List aC):List fI:=(M0 t l).flatMap (·.out)
theorem Uk {l:List aC}:match l.findIdx? (fun p=> !decide (p.tag=[])) with
  | some i=> ∃p,l[i]? =some p∧l.find? (fun p=> !decide (p.tag=[]))=some p
  | none=>l.find? (fun p=> !decide (p.tag=[]))=none:=by
 induction l with
 | nil=>rfl
 | cons a r ih=>
  rw [List.findIdx?_cons,List.find?_cons];by_cases c:a.tag=[]
  ·simp only [c,decide_true,Bool.not_true,Bool.false_eq_true,if_false]
   cases h:r.findIdx? (fun p=> !decide (p.tag=[])) with
   | none=>rw [h] at ih;simpa using ih
   | some i=>rw [h] at ih;simpa using ih
  ·simp [c]
end Go.Toll
end
section
namespace Go.Proofs.YtkpioblbeiaefaaGreat
open Go Go.Abs Go.Toll
variable {gl : aR} {h : ak}
theorem bK (x:AV):Go.Abs.agd.match_1 (fun _=>Option Bool) x (fun _=>some false) (fun _=>some false)=some false:=by cases x <;> rfl
def Sk (X:fI)(l:List fI):List fI:=gV (fun a b=>decide (pK a b<0)) X l
def Hm (X:dB)(l:List dB):List dB:=gV (fun a b=>decide (jS a b<0)) X l
def Xb (X:aC)(l:List aC):List aC:=gV (fun a b=>decide (uu a b<0)) X l
theorem CZ {a b:Bytes} (h:Op.bytesLess a b=true):Op.bytesLess b a=false∧a≠b:=by
 rw [←gD,decide_eq_true_eq] at h;have:=qI a b;refine⟨by rw [←gD,decide_eq_false_iff_not];omega,?_⟩;rintro rfl;have:=(ma a a).2 rfl;omega
theorem GR {a b:Bytes} (h1:Op.bytesLess a b=false)(h2:a≠b):Op.bytesLess b a=true:=by
 rw [←gD,decide_eq_false_iff_not] at h1;rw [←gD,decide_eq_true_eq];have h3:=qI a b;have h4:Lib.compareBytes a b≠0:=fun e=>h2 ((ma a b).1 e);omega
theorem WT (X y:fI):decide (pK X y<0)= !(Op.bytesLess y.id X.id || (decide (y.id=X.id) && decide (y.why≤X.why))):=by
 unfold pK;rw [ji];unfold jb iF;by_cases e:X.id=y.id
 ·have hs:Op.bytesLess y.id y.id=false:=by rw [←gD,decide_eq_false_iff_not,(ma _ _).2 rfl];omega
  rw [e];simp [hs];by_cases q:X.why<y.why
  ·simp [q]
  ·by_cases r:y.why<X.why
   ·simp [q,r];omega
   ·simp [q,r];omega
 ·have e': ¬y.id=X.id:=fun c=>e c.symm;by_cases b:Op.bytesLess X.id y.id=true
  ·have:=CZ b;simp [e,e',b,this.1]
  ·have b':Op.bytesLess X.id y.id=false:=by simpa using b
   have:=GR b' e;simp [e,e',b',this]
theorem Vw (X y:dB):decide (jS X y<0)= !(decide (iQ y<iQ X) || (decide (iQ y=iQ X) && !Op.bytesLess X.id y.id)):=by
 unfold jS;rw [ji];unfold jb iF;by_cases h1:iQ X<iQ y
 ·have h2: ¬iQ y<iQ X:=by omega
  have h3: ¬iQ y=iQ X:=by omega
  simp [h1,h2,h3]
 ·by_cases h2:iQ y<iQ X
  ·simp [h1,h2]
  ·have h3:iQ y=iQ X:=by omega
   by_cases e:X.id=y.id
   ·have hs:Op.bytesLess y.id y.id=false:=by rw [←gD,decide_eq_false_iff_not,(ma _ _).2 rfl];omega
    simp [h3,e,hs]
   ·by_cases b:Op.bytesLess X.id y.id=true
    ·simp [h3,e,b]
    ·have b':Op.bytesLess X.id y.id=false:=by simpa using b
     simp [h3,e,b']
theorem kU (l:List fI): ∀e∈l.map aM,∀y∈e,y.Data:=fun e he y hy=>by
 obtain⟨m,_,rfl⟩:=List.mem_map.1 he;simp [aM] at hy;rcases hy with rfl | rfl <;> simp
theorem Np (l:List fI): ∀e∈l.map aM,e.length=2:=by
 intro e he;obtain⟨s,_,rfl⟩:=List.mem_map.1 he;rfl
theorem PS (l:List dB): ∀e∈l.map aH,e.length=5:=by
 intro e he;obtain⟨s,_,rfl⟩:=List.mem_map.1 he;rfl
theorem l9 (l:List dB): ∀e∈l.map aH,∀y∈e,y.Data:=fun e he y hy=>by
 obtain⟨m,_,rfl⟩:=List.mem_map.1 he;simp only [aH,List.mem_cons,List.not_mem_nil,or_false] at hy;rcases hy with rfl | rfl | rfl | rfl | rfl
 all_goals first | exact .ro _ (IJ _) | simp
set_option maxHeartbeats 8000000 in
theorem Gs (l:List fI)(X:fI) {x:AV} (hx:Rs 2 h x (l.map aM))(hs:qz (fun a b=>decide (pK a b<0)) l)(hn:l.length≤1000000):
  af Tryz.prog gl 45 [x,.str X.id,.int .i64 X.why] h fun v h'=>v= .ro ((Sk X l).map aM)∧h'=h:=by
 refine af.fresh' (af.body Tryz.f45 _ mixed Tryz.func45 rfl rfl (by simp [Tryz.ntmps45]) ?_);have fx:=hx.fix;have lx:=(hx.append [.cells 2 [aM X]]).len2;simp [fx];obtain⟨G,hGd⟩: ∃G:ak,h++[.cells 2 [aM X]]=G:=⟨_,rfl⟩;have hcell: ∀H:ak,(∃g,H=G++g)→H[h.length]? =some (.cells 2 [aM X]):=by rintro H ⟨g,rfl⟩;rw [←hGd];simp
 have hkeep: ∀H:ak,(∃g,H=G++g)→Rs 2 H x (l.map aM):=by rintro H ⟨g,rfl⟩;rw [←hGd,zK];exact hx.append _
 rw [hGd] at lx;have hGd':=hGd;simp only [aM] at hGd';rw [hGd'];refine aW.up mixed l.length (fun i fr H=>fr 0=x∧fr 1= .str X.id∧fr 2= .int .i64 X.why∧fr 7= .ptr h.length 0 0∧fr 8= .int .i64 i∧(∀j y,j<i→l[j]? =some y→decide (pK X y<0)=false)∧G=H) 0 (by omega)
  ⟨by simp,by simp,by simp,by simp,by simp,by omega,rfl⟩ ?_
 rintro i fr H hi ⟨e0,e1,e2,e7,e8,hk1,rfl⟩;have hG: ∃g,G=G++g:=⟨[],by simp⟩;have hxG:=hkeep G hG;have ew:=aB (i:=i) (by omega);have hsl:eD (l.map aM).length none (some (i:Int)):=by simp [eD,tQ,eY] <;> omega
 have hsr:eD (l.map aM).length (some (i:Int)) none:=by simp [eD,tQ,eY] <;> omega
 have hxH:=(hkeep G hG).append [.cells 2 []];have q1:=hxH.cut Tryz.prog (by omega) none (some (i:Int)) hsl;have q1f:=q1.1.fix;have q1o:=q1.2 59 (by decide) (by decide);have sl1:Rs 2 (G++[.cells 2 []]) (aS x none (some (i:Int))) ((l.take i).map aM):=by rw [List.map_take];simpa [eY,-aS,-List.map_take] using q1.1
 by_cases hlt:i<l.length
 ·obtain⟨y,hy,hy'⟩:=aN hlt;have hltI:(i:Int)<l.length:=by omega
  have ra:=Rs.ix Tryz.prog hxG i (by omega) (y:=aM y) (by simp [hy]);simp only [aM] at ra;have go:=WT X y;by_cases c1:Op.bytesLess y.id X.id=true
  ·rw [c1] at go;simp [au,bK,-aS,-aU,e0,e1,e2,e7,e8,hlt,hltI,fx,lx,ra,ew,c1];refine⟨i+1,by omega,by omega,by omega,fun j y' hj hy2=> ?_⟩;rcases zN j i with q | q
   ·simpa using hk1 j y' q hy2
   ·obtain rfl:j=i:=by omega
    rw [hy] at hy2;cases hy2;simpa using go
  have c1':Op.bytesLess y.id X.id=false:=by simpa using c1
  rw [c1'] at go;by_cases c2:y.id=X.id
  ·by_cases c3:y.why≤X.why
   ·simp [au,bK,-aS,-aU,e0,e1,e2,e7,e8,hlt,hltI,fx,lx,ra,ew,c1',c2,c3];refine⟨i+1,by omega,by omega,by omega,fun j y' hj hy2=> ?_⟩;rcases zN j i with q | q
    ·simpa using hk1 j y' q hy2
    ·obtain rfl:j=i:=by omega
     rw [hy] at hy2;cases hy2;simpa [c2,c3] using go
   ·have hk2: ∀y',l[i]? =some y'→decide (pK X y'<0)=true:=fun y' hy2=>by rw [hy] at hy2;cases hy2;simpa [c2,c3] using go
    simp only [c2,c3,decide_true,decide_false] at go;rw [c2] at ra c1';simp [au,bK,-ae,-ai,-ah,-AV.solid,-aS,-aU,e0,e1,e2,e7,e8,hlt,hltI,ra,ew,c1',c2,c3,fx,lx,q1f,q1o];refine aG (lo:=G.length) (n:=2) (es:=[]) (ys:=(l.take i).map aM) (Ls.own (by simp) (by omega) rfl (by simp)) (by simp) (bL sl1 (by simp) (by simp) (by simp)) (by simp <;> omega) ?_;intro s1 H1 hs1 hg1 hn1;have hs1f:=hs1.rs.fix;have hB1:=hg1.base G (by omega) ⟨_,rfl⟩;have hT1:=at3 (hcell H1 hB1);simp only [aM] at hT1;simp [au,bK,-ae,-ai,-ah,-AV.solid,-aS,-aU,-List.map_append,e0,e1,e2,e7,e8,hs1f,fx,lx,hT1];refine aG (lo:=G.length) (n:=2) (es:=(l.take i).map aM) (ys:=[aM X]) (by simpa using hs1.more _) (by have:=aV hB1;simp <;> omega) (by simp [bu,aM]) (by simp <;> omega) ?_;intro s2 H2 hs2 hg2 hn2;have hs2f:=hs2.rs.fix;have hB2:=hg2.base G (by omega) (aF hB1 _);have hx2:Rs 2 H2 x (l.map aM):=hkeep H2 hB2;have q2:=hx2.cut Tryz.prog (by omega) (some (i:Int)) none hsr;have q2o:=q2.2 59 (by decide) (by decide);have sl2:Rs 2 H2 (aS x (some (i:Int)) none) ((l.drop i).map aM):=by
     have e:(l.map aM).take l.length=l.map aM:=zG (by simp);rw [List.map_drop];simpa [eY,-aS,e,-List.map_drop] using q2.1
    have sl2f:=sl2.fix;have lx2:=hx2.len2;simp [au,bK,-ae,-ai,-ah,-AV.solid,-aS,-aU,-List.map_append,e0,e1,e2,e7,e8,fx,hs2f,sl2f,q2o,lx2];refine aG (lo:=G.length) (n:=2) (es:=(l.take i).map aM++[aM X]) (ys:=(l.drop i).map aM) hs2 (by have:=aV hB2;omega) (bL sl2 (by simp) (by simp) (by simp)) (by simp <;> omega) ?_;intro s3 H3 hs3 hg3 hn3;have hB3:=hg3.base G (by omega) hB2;have hs3f:=hs3.rs.fix;simp [au,bK,-ae,-ai,-ah,-AV.solid,-aS,-aU,-List.map_append,e0,e1,e2,e7,e8,hs3f];obtain⟨g3,hg3⟩:=hB3;refine⟨⟨_,by rw [hg3,←hGd,zK]⟩,?_⟩;have e:Sk X l=l.take i++X::l.drop i:=pR lQ.swo hs hi hk1 hk2;rw [e];have hl3:Ls 2 G.length H3 s3 ((l.take i++X::l.drop i).map aM):=by simpa using hs3
    exact hl3.frz (by rw [←hGd];simp) (kU _)
  ·have hk2: ∀y',l[i]? =some y'→decide (pK X y'<0)=true:=fun y' hy2=>by rw [hy] at hy2;cases hy2;simpa [c2] using go
   simp [au,bK,-ae,-ai,-ah,-AV.solid,-aS,-aU,e0,e1,e2,e7,e8,hlt,hltI,ra,ew,c1',c2,fx,lx,q1f,q1o];refine aG (lo:=G.length) (n:=2) (es:=[]) (ys:=(l.take i).map aM) (Ls.own (by simp) (by omega) rfl (by simp)) (by simp) (bL sl1 (by simp) (by simp) (by simp)) (by simp <;> omega) ?_;intro s1 H1 hs1 hg1 hn1;have hs1f:=hs1.rs.fix;have hB1:=hg1.base G (by omega) ⟨_,rfl⟩;have hT1:=at3 (hcell H1 hB1);simp only [aM] at hT1;simp [au,bK,-ae,-ai,-ah,-AV.solid,-aS,-aU,-List.map_append,e0,e1,e2,e7,e8,hs1f,fx,lx,hT1];refine aG (lo:=G.length) (n:=2) (es:=(l.take i).map aM) (ys:=[aM X]) (by simpa using hs1.more _) (by have:=aV hB1;simp <;> omega) (by simp [bu,aM]) (by simp <;> omega) ?_;intro s2 H2 hs2 hg2 hn2;have hs2f:=hs2.rs.fix;have hB2:=hg2.base G (by omega) (aF hB1 _);have hx2:Rs 2 H2 x (l.map aM):=hkeep H2 hB2;have q2:=hx2.cut Tryz.prog (by omega) (some (i:Int)) none hsr;have q2o:=q2.2 59 (by decide) (by decide);have sl2:Rs 2 H2 (aS x (some (i:Int)) none) ((l.drop i).map aM):=by
    have e:(l.map aM).take l.length=l.map aM:=zG (by simp);rw [List.map_drop];simpa [eY,-aS,e,-List.map_drop] using q2.1
   have sl2f:=sl2.fix;have lx2:=hx2.len2;simp [au,bK,-ae,-ai,-ah,-AV.solid,-aS,-aU,-List.map_append,e0,e1,e2,e7,e8,fx,hs2f,sl2f,q2o,lx2];refine aG (lo:=G.length) (n:=2) (es:=(l.take i).map aM++[aM X]) (ys:=(l.drop i).map aM) hs2 (by have:=aV hB2;omega) (bL sl2 (by simp) (by simp) (by simp)) (by simp <;> omega) ?_;intro s3 H3 hs3 hg3 hn3;have hB3:=hg3.base G (by omega) hB2;have hs3f:=hs3.rs.fix;simp [au,bK,-ae,-ai,-ah,-AV.solid,-aS,-aU,-List.map_append,e0,e1,e2,e7,e8,hs3f];obtain⟨g3,hg3⟩:=hB3;refine⟨⟨_,by rw [hg3,←hGd,zK]⟩,?_⟩;have e:Sk X l=l.take i++X::l.drop i:=pR lQ.swo hs hi hk1 hk2;rw [e];have hl3:Ls 2 G.length H3 s3 ((l.take i++X::l.drop i).map aM):=by simpa using hs3
   exact hl3.frz (by rw [←hGd];simp) (kU _)
 ·have hk2: ∀y',l[i]? =some y'→decide (pK X y'<0)=true:=fun y' hy2=>absurd (aK hy2) hlt;have hltI: ¬(i:Int)<l.length:=by omega
  simp [au,bK,-ae,-ai,-ah,-AV.solid,-aS,-aU,e0,e1,e2,e7,e8,hlt,hltI,fx,lx,q1f,q1o];refine aG (lo:=G.length) (n:=2) (es:=[]) (ys:=(l.take i).map aM) (Ls.own (by simp) (by omega) rfl (by simp)) (by simp) (bL sl1 (by simp) (by simp) (by simp)) (by simp <;> omega) ?_;intro s1 H1 hs1 hg1 hn1;have hs1f:=hs1.rs.fix;have hB1:=hg1.base G (by omega) ⟨_,rfl⟩;have hT1:=at3 (hcell H1 hB1);simp only [aM] at hT1;simp [au,bK,-ae,-ai,-ah,-AV.solid,-aS,-aU,-List.map_append,e0,e1,e2,e7,e8,hs1f,fx,lx,hT1];refine aG (lo:=G.length) (n:=2) (es:=(l.take i).map aM) (ys:=[aM X]) (by simpa using hs1.more _) (by have:=aV hB1;simp <;> omega) (by simp [bu,aM]) (by simp <;> omega) ?_;intro s2 H2 hs2 hg2 hn2;have hs2f:=hs2.rs.fix;have hB2:=hg2.base G (by omega) (aF hB1 _);have hx2:Rs 2 H2 x (l.map aM):=hkeep H2 hB2;have q2:=hx2.cut Tryz.prog (by omega) (some (i:Int)) none hsr;have q2o:=q2.2 59 (by decide) (by decide);have sl2:Rs 2 H2 (aS x (some (i:Int)) none) ((l.drop i).map aM):=by
   have e:(l.map aM).take l.length=l.map aM:=zG (by simp);rw [List.map_drop];simpa [eY,-aS,e,-List.map_drop] using q2.1
  have sl2f:=sl2.fix;have lx2:=hx2.len2;simp [au,bK,-ae,-ai,-ah,-AV.solid,-aS,-aU,-List.map_append,e0,e1,e2,e7,e8,fx,hs2f,sl2f,q2o,lx2];refine aG (lo:=G.length) (n:=2) (es:=(l.take i).map aM++[aM X]) (ys:=(l.drop i).map aM) hs2 (by have:=aV hB2;omega) (bL sl2 (by simp) (by simp) (by simp)) (by simp <;> omega) ?_;intro s3 H3 hs3 hg3 hn3;have hB3:=hg3.base G (by omega) hB2;have hs3f:=hs3.rs.fix;simp [au,bK,-ae,-ai,-ah,-AV.solid,-aS,-aU,-List.map_append,e0,e1,e2,e7,e8,hs3f];obtain⟨g3,hg3⟩:=hB3;refine⟨⟨_,by rw [hg3,←hGd,zK]⟩,?_⟩;have e:Sk X l=l.take i++X::l.drop i:=pR lQ.swo hs hi hk1 hk2;rw [e];have hl3:Ls 2 G.length H3 s3 ((l.take i++X::l.drop i).map aM):=by simpa using hs3
  exact hl3.frz (by rw [←hGd];simp) (kU _)
end Go.Proofs.YtkpioblbeiaefaaGreat
end
section
namespace Go.Toll
open Go Go.Abs
def TW (l:List aC)(I:List Nat):List aC:=I.filterMap fun j=>l[j]?
theorem TY {v:bv} {l:List aC}: ∀ {I:List Nat} {last:Option Nat},OW (gL v l) l.length last I→Jj v (TW l I)=true
 | [],_,_=>rfl
 | [i],_,h=>by
  obtain⟨a,ha,_⟩:=aN h.1;simp [TW,ha,Jj]
 | i::j::r,_,h=>by
  obtain⟨h1,_,h3⟩:=h;have ih:=TY h3;obtain⟨h4,h5,_⟩:=h3;obtain⟨a,ha,_⟩:=aN h1;obtain⟨b,hb,_⟩:=aN h4;have hg:=(h5 i rfl).2;rw [Pk ha hb] at hg;simp only [TW,List.filterMap_cons,ha,hb] at ih ⊢;rw [Jj,hg,ih];rfl
end Go.Toll
end
section
namespace Go.Toll
open Go Go.Abs
section
variable {α : Type} {lt : α → α → Bool}
theorem Ox (o:SWO lt)(p:α→Bool)(l:List α):(aT lt l).filter p=aT lt (l.filter p):=by
 refine xY.eq o ⟨List.Pairwise.sublist List.filter_sublist (fu o l),fun a=> ?_⟩;have h:=(fB o l).2 a;rw [List.filter_filter,List.filter_filter];have e: ∀z:List α,z.filter (fun x=>jh lt a x && p x)=(z.filter (jh lt a)).filter p:=fun z=>by
  rw [List.filter_filter];exact List.filter_congr fun x _=>Bool.and_comm _ _
 rw [e,e,h]
theorem Oy (o:SWO lt)(l:List α):aT lt (aT lt l)=aT lt l:=lh o (fu o l)
theorem E5 (o:SWO lt)(A C:List α):aT lt (A++aT lt C)=aT lt (A++C):=by
 rw [←Ao o A (aT lt C),Oy o,Ao o]
theorem xQ (A:List α)(x:α):aT lt (A++[x])=gV lt x (aT lt A):=by
 unfold aT;rw [List.foldl_append];rfl
theorem Ap (o:SWO lt)(p:α→Bool)(l:List α):((aT lt l).filter p).length=(l.filter p).length:=by rw [Ox o,bI]
theorem iG (f:α→Bytes)(a:Bytes): ∀l:List α,(l.map f).count a=(l.filter fun x=>decide (f x=a)).length
 | []=>by simp
 | x::l=>by
  have ih:=iG f a l;by_cases c:f x=a
  ·simp [c,ih]
  ·simp [c,ih]
theorem Bq (o:SWO lt)(f:α→Bytes)(a:Bytes)(l:List α):((aT lt l).map f).count a=(l.map f).count a:=by
 rw [iG,iG,Ap o]
end
theorem Zi:SWO fun (a b:aC)=>decide (uu a b<0):=rA.swo
theorem Zj:SWO fun (a b:dB)=>decide (jS a b<0):=lS.swo
theorem Zh:SWO fun (a b:fI)=>decide (pK a b<0):=lQ.swo
section
variable {t : bn} {veh v : Bytes} {cls : Bytes → Int}
end
theorem Ws {t:bn} {veh:Bytes} {cls:Bytes→Int} {w:dG} (h: ∀x∈w.trips,x.stops≠[])(s:bq): ∀x∈(dA t veh cls w s).trips,x.stops≠[]:=by
 have: ∀x∈(jJ t veh cls w s).trips,x.stops≠[]:=by
  unfold jJ;split <;> simp only [List.mem_append,List.mem_singleton]
  case h_1=>rintro x (hx | rfl);exact h x hx;simp [iC]
  case h_3=>rintro x (hx | rfl);exact h x hx;simp [iC]
  all_goals exact h
 unfold dA;split <;> exact this
theorem Ph {t:bn} {veh:Bytes} {cls:Bytes→Int}: ∀(l:List bq) (w:dG),(∀x∈w.trips,x.stops≠[])→ ∀x∈(l.foldl (dA t veh cls) w).trips,x.stops≠[]
 | [],w,h=>h
 | s::l,w,h=>Ph l _ (Ws h s)
theorem LJ {l:List aC} {p:aC} (h:p∈bO l):p∈l:=by
 have:=lN h;rw [List.take_length] at this;exact (dW _).1 this
theorem Cv (l:List aC):((bO l).map (·.id)).Nodup:=LH _
theorem oN (l:List aC):(bO l).length≤l.length:=by
 have:=ru (dZ l) (dZ l).length;rw [bO];rw [dZ,bI] at this ⊢;exact this
theorem Xj {l:List aC} (h:(l.map (·.id)).Nodup)(v:Bytes):((tT l v).map (·.id)).Nodup:=by
 unfold tT;split
 ·simp
 ·rw [List.nodup_iff_count];intro a;rw [dZ,Bq Zi,iG];refine Nat.le_trans ?_ (List.nodup_iff_count.1 h a);rw [iG,JJ,List.take_length];exact ((List.filter_sublist).filter _).length_le
structure qD (t:bn)(p:aC):Prop where
 pt:aL t.net.pts p.point=true
 time:bS p.time=true
 id:p.id≠[]
 veh:p.tag≠[]∨p.plate≠[]
theorem Ra {I:List Nat} {i:Nat} (h: ∀j∈I,j<i):jH I i=[]:=by
 rw [jH,List.filter_eq_nil_iff];intro j hj;have:=h j hj;simp;omega
theorem TA {I:List Nat} {n:Nat} (h:I.Pairwise (· < ·))(hl: ∀j∈I,j<n):(List.range n).filter (fun j=>decide (j∈I))=I:=by
 have key: ∀k i,n - i=k→((List.range n).drop i).filter (fun j=>decide (j∈I))=jH I i:=by
  intro k
  induction k with
  | zero=>intro i hi;rw [zH (by simp;omega),Ra fun j hj=>by have:=hl j hj;omega];rfl
  | succ k ih=>
   intro i hi;have hg:(List.range n)[i]? =some i:=by rw [List.getElem?_range (by omega)]
   rw [bF hg,List.filter_cons,ih (i+1) (by omega),kD (i:=i) h];by_cases c:i∈I <;> simp [c]
 have:=key n 0 (by omega);rwa [List.drop_zero,oP] at this
theorem U0 {I:List Nat} {l:List aC} (h:I.Pairwise (· < ·))(hl: ∀j∈I,j<l.length):uK I l l.length=TW l I:=by
 rw [uK,TA h hl];rfl
theorem Sn (v:bv)(l:List aC):fD v l=TW l (OC v l):=U0 (OW.asc qZ.1).1 qZ.2.1
theorem QA (v:bv)(l:List aC):Jj v (fD v l)=true:=by
 rw [Sn];exact TY qZ.1
theorem uM (I:List Nat)(l:List aC)(a:Bytes): ∀i:Nat,((uK I l i).map (·.id)).count a+((kZ I l i).map (·.id)).count a=((l.take i).map (·.id)).count a
 | 0=>by simp [uK,kZ]
 | i+1=>by
  have ih:=uM I l a i
  cases hg:l[i]? with
  | none=>
   have e1:uK I l (i+1)=uK I l i:=by rw [uK,uK,List.range_succ,List.filter_append,List.filterMap_append];by_cases c:i∈I <;> simp [c,hg]
   have e2:kZ I l (i+1)=kZ I l i:=by rw [kZ,kZ,List.range_succ,List.filter_append,List.filterMap_append];by_cases c:i∈I <;> simp [c,hg]
   rw [e1,e2,ih,zM,hg];simp
  | some p=>
   rw [yC hg,Ae hg,zM,hg];by_cases c:i∈I
   ·rw [if_pos c,if_pos c];simp only [List.map_append,List.count_append,Option.toList_some,List.map_cons,List.map_nil];omega
   ·rw [if_neg c,if_neg c];simp only [List.map_append,List.count_append,Option.toList_some,List.map_cons,List.map_nil];omega
theorem PM {v:bv}: ∀ {l:List aC} {b:Option aC},(∀p∈l,aL v.pts p.point=true∧bS p.time=true)→Jj v l=true→(∀a p,b=some a→l.head? =some p→a.time<p.time)→gP v b l=0
 | [],_,_,_,_=>rfl
 | p::l,b,h1,h2,h3=>by
  obtain⟨q1,q2⟩:=h1 p (by simp);rw [gP,if_neg (by simp [q1]),if_neg (by simp [q2]),if_neg]
  ·refine PM (fun x hx=>h1 x (by simp [hx])) ?_ ?_
   ·cases l with
    | nil=>rfl
    | cons x r=>rw [Jj,Bool.and_eq_true] at h2;exact h2.2
   ·rintro a x ⟨⟩ hx
    cases l with
    | nil=>cases hx
    | cons y r=>
     cases hx
     rw [Jj,Bool.and_eq_true] at h2;have:=h2.1;simp [fe,tJ,gK] at this;exact this.1.2.2
  ·rintro⟨a,e,hle⟩;have:=h3 a p e rfl;omega
theorem Vr {v:bv} {l:List aC} (h1: ∀p∈l,aL v.pts p.point=true∧bS p.time=true)(h2:Jj v l=true)(hn:l.length≤1024):gT v l=0:=by
 rw [gT,if_neg (by omega)];exact PM h1 h2 (by rintro a p ⟨⟩)
theorem NZ (v:bv)(a p:aC):bg (ni v a p)=[]:=by
 rw [bg,List.map_eq_nil_iff,List.filter_eq_nil_iff];intro x hx;simp [VU,GQ a p x hx]
theorem Bf {v:bv} {l:List aC} (hid: ∀p∈l,p.id≠[]): ∀i:Nat,bg (dP v l i)=(l.take i).map (·.id)
 | 0=>by simp [dP,bg]
 | i+1=>by
  have ih:=Bf (v:=v) hid i;have h0:bg []=[]:=rfl;rw [dP,zM]
  cases hg:l[i]? with
  | none=>simp [ih]
  | some p=>
   have h1:bg [iX p]=[p.id]:=by simp [bg,VU,iX,hid p (zF hg)]
   simp only;rw [vT,vT,ih,h1]
   cases i with
   | zero=>simp [h0]
   | succ j=>
    simp only;split
    ·rw [NZ];simp
    ·rw [h0];simp
section
variable {t : bn} (hz : bZ t = 0)
theorem iD (hz:bZ t=0):aI t=t:=by rw [aI,if_pos hz]
include hz
theorem Po {s:Bytes} (h:aL t.net.pts s=true):kindOf t s≠0:=by
 have hv:=iD hz;have hn:=fC t;rw [hv] at hn;rw [kindOf,hv,bH,if_pos hn]
 cases hf:t.net.pts.find? fun p=>decide (p.name=s) with
 | none=>
  obtain⟨p,hp,e⟩:=List.any_eq_true.1 h;exact absurd e (by simpa using List.find?_eq_none.1 hf p hp)
 | some p=>
  have h1:=(kY hn p (List.mem_of_find?_eq_some hf)).2;simp;omega
theorem Nr {l:List aC} (h: ∀p∈l,qD t p):fG t l=[]∧aX t l=l:=by
 constructor
 ·rw [fG,List.map_eq_nil_iff,List.filter_eq_nil_iff];intro p hp;simpa using Po hz (h p hp).pt
 ·rw [aX,List.filter_eq_self];intro p hp;simpa using Po hz (h p hp).pt
theorem QB {l:List aC} (h: ∀p∈l,qD t p)(hn:l.length≤1024):gT t.net (fD t.net l)=0:=
 Vr (fun p hp=>⟨(h p (nW hp)).pt,(h p (nW hp)).time⟩) (QA _ _) (Nat.le_trans (Nat.le_trans (rW _ _ _) (Nat.le_refl _)) hn)
theorem uq {l:List aC} (h: ∀p∈l,qD t p)(hn:l.length≤1024)(v a:Bytes):(pu (bY t l v)).count a=(l.map (·.id)).count a:=by
 obtain⟨f1,f2⟩:=Nr hz h;have hk:=QB hz h hn;rw [bY,OV,lm,iD hz,f2,fV,if_neg (by simpa using hk)];simp only;rw [Bf fun p hp=>(h p (nW hp)).id,List.take_length];have e:=uM (OC t.net l) l a l.length;rw [List.take_length] at e;rw [←e];simp only [dQ,f1,pu,bg,List.nil_append,List.flatMap_nil,List.filter_nil,List.map_nil,List.count_nil];rw [eZ,fD];omega
end
theorem Tg {l:List aC} {p:aC} (h:p.tag≠[]∨p.plate≠[]):bU l p≠[]:=by
 unfold bU;split
 ·rename_i c;rw [MR];split
  ·exact c.2
  ·assumption
 ·rename_i c;intro e;rcases h with h | h
  ·exact h e
  ·exact c ⟨e,h⟩
theorem Et {l:List aC} (q:aC→Bool): ∀V:List Bytes,V.Nodup→((V.flatMap fun v=>l.filter fun p=>decide (bU l p=v)).filter q).length=(l.filter fun p=>q p && decide (bU l p∈V)).length
 | [],_=>by
  have:(l.filter fun p=>q p && decide (bU l p∈([]:List Bytes)))=[]:=by rw [List.filter_eq_nil_iff];simp
  rw [this];rfl
 | v::V,hn=>by
  rw [List.nodup_cons] at hn;have ih:=Et (l:=l) q V hn.2;rw [List.flatMap_cons,List.filter_append,List.length_append,ih,List.filter_filter];clear ih;generalize hL:l.filter (fun p=>q p && decide (bU l p∈v::V))=X;rw [←hL];have key: ∀r:List aC,(r.filter fun p=>q p && decide (bU l p=v)).length+(r.filter fun p=>q p && decide (bU l p∈V)).length=(r.filter fun p=>q p && decide (bU l p∈v::V)).length:=by
   intro r
   induction r with
   | nil=>rfl
   | cons p r ih=>
    by_cases c:q p=true
    ·by_cases d:bU l p=v
     ·have d2:bU l p∉V:=by rw [d];exact hn.1
      simp [c,d,hn.1];simp at ih;omega
     ·by_cases e:bU l p∈V
      ·simp [c,d,e];simp at ih;omega
      ·simp [c,d,e];simpa using ih
    ·simp [c];simpa using ih
  exact key l
theorem CP {t:bn} (hz:bZ t=0) {l:List aC} (h: ∀p∈l,qD t p)(hn:l.length≤1024)(a:Bytes):
  ((allT t l).flatMap fun x=>bg x.stops).count a+((pg t l).map (·.id)).count a=((bO l).map (·.id)).count a:=by
 have hall: ∀p∈bO l,qD t p:=fun p hp=>h p (LJ hp);have hlen:=oN l;have hb: ∀v,(pu (bY t (tT (bO l) v) v)).count a=((tT (bO l) v).map (·.id)).count a:=fun v=>
  uq hz (fun p hp=>hall p (Cu hp).1) (Nat.le_trans (yL _ _) (by omega)) v a
 have e1:((allT t l).flatMap fun x=>bg x.stops).count a+((pg t l).map (·.id)).count a=((M0 t l).flatMap pu).count a:=by
  rw [allT,pg];generalize M0 t l=W
  induction W with
  | nil=>simp
  | cons w W ih=>
   simp only [List.flatMap_cons,List.flatMap_append,List.map_append,List.count_append,pu] at ih ⊢;omega
 rw [e1,M0,List.flatMap_map];generalize bO l=L at*;have e2:((eX L).flatMap fun v=>pu (bY t (tT L v) v)).count a=(((eX L).flatMap fun v=>L.filter fun p=>decide (bU L p=v)).filter fun p=>decide (p.id=a)).length:=by
  rw [←iG];have: ∀V:List Bytes,(∀v∈V,v≠[])→(V.flatMap fun v=>pu (bY t (tT L v) v)).count a=((V.flatMap fun v=>L.filter fun p=>decide (bU L p=v)).map (·.id)).count a:=by
   intro V
   induction V with
   | nil=>intro _;simp
   | cons v V ih=>
    intro hV;rw [List.flatMap_cons,List.flatMap_cons,List.map_append,List.count_append,List.count_append,hb,ih fun x hx=>hV x (by simp [hx])];have hv:=hV v (by simp);rw [tT,if_neg hv,dZ,Bq Zi,JJ,List.take_length]
  exact this _ fun v hv=>((IX L v).1 hv).1
 rw [e2,Et _ _ (MM L),iG];congr 1
 refine List.filter_congr fun p hp=> ?_;have:bU L p∈eX L:=(IX L _).2 ⟨Tg (hall p hp).veh,p,hp,rfl⟩;simp [this]
theorem UD {t:bn} (hz:bZ t=0) {l:List aC} (h: ∀p∈l,qD t p)(hn:l.length≤1024):((pg t l).map (·.id)).Nodup:=by
 rw [List.nodup_iff_count];intro a;have h1:=CP hz h hn a;have h2:=List.nodup_iff_count.1 (Cv l) a;omega
theorem Qj {t:bn} (hz:bZ t=0) {l:List aC} (h: ∀p∈l,qD t p)(hn:l.length≤1024)(hd:(l.map (·.id)).Nodup)(v:Bytes):((bY t l v).out.map (·.id)).Nodup:=by
 rw [List.nodup_iff_count];intro a;have h1:=uq hz h hn v a;have h2:=List.nodup_iff_count.1 hd a;rw [pu,List.count_append] at h1;omega
end Go.Toll
end
section
section
namespace Go.Toll
open Go Go.Abs
theorem kV {n lo lo':Nat} {h:ak} {x:AV} {es:List (List AV)} (r:Ls n lo h x es)(hl:lo'≤lo):Ls n lo' h x es:=by
 obtain⟨h1,h2⟩:=r;rcases h1 with e | ⟨b,e,hb,hg⟩
 ·exact⟨.inl e,h2⟩
 ·exact⟨.inr ⟨b,e,by omega,hg⟩,h2⟩
theorem Py {n lo:Nat} {h:ak} {x:AV} {es:List (List AV)} (r:Ls n lo h x es) {b off len:Nat} (e:x= .own b off len):b<h.length:=by
 rcases r.1 with⟨e1,_⟩ | ⟨b',e1,_,hg⟩
 ·rw [e1] at e;cases e
 ·rw [e1] at e;injection e with e2;subst e2;exact aK hg
end Go.Toll
end
section
namespace Go.Toll
open Go Go.Abs
structure ZF where
 name:Bytes
 point:Bytes
 kind:Int
 lane:Int
 offs:List (List AV)
 down:List Iv
end Go.Toll
end
section
namespace Go.Toll
open Go Go.Abs
section
variable {L : List ZF} {cuts : List Int} {a b : Int} {out : List Iv}
end
end Go.Toll
end
end
