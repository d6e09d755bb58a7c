/- Part 27 of the lemmas below the statements of this seat: Law21F. -/
import Derived.Test.YtkpioblbeiaefaaGreatPr26
set_option linter.unusedSectionVars false
set_option linter.unusedVariables false
set_option linter.unusedSimpArgs false
set_option linter.unnecessarySimpa false
set_option maxRecDepth 100000
namespace Go.Proofs.YtkpioblbeiaefaaGreat
open Go Go.Abs Go.Toll
variable {gl : aM} [GOk gl] {h : af}
theorem qL {P:Program} {N:Nat} {ops:Array Oper} {z:Nat} {fr:aG} {K:aG→af→Prop} (q:List Nat×List (Nat×Nat))(ps:List (List Nat×List (Nat×Nat))):uA P gl N ops z K fr h (q::ps)↔((pR (aR ops z q.1) z=true∧jd (av (aR ops z q.1) z) q.2=true)∧gW P gl N (av (aR ops z q.1) z) (av (aR ops z q.1) z).toList [] [] (fun frs hs fr h=>dZ P gl N (av (aR ops z q.1) z) q.2 frs hs∧fB P gl N false (aR ops z q.1) ((aR ops z q.1).toList.drop z) K fr h) fr h)∧uA P gl N ops z K fr h ps:=Iff.rfl
def DX (T:List bW)(v:Bytes)(k:Nat):List bW:=(T.take k).filter fun x=>decide (x.veh=v)
theorem PI {T:List bW} {v:Bytes} {k:Nat} {x:bW} (h:T[k]? =some x):DX T v (k+1)=if x.veh=v then DX T v k++[x] else DX T v k:=by
 rw [DX,zM,h,List.filter_append];by_cases c:x.veh=v <;> simp [DX,c]
theorem Ku (T:List bW)(v:Bytes)(k:Nat):(DX T v k).length≤T.length:=Nat.le_trans (List.length_filter_le _ _) (by rw [List.length_take];exact Nat.min_le_right _ _)
def ru (Y:List bW)(v:Bytes)(k:Nat):List bW:=(Y.take k).map (wo v)++Y.drop k
theorem Dk (Y:List bW)(v:Bytes)(k:Nat):(ru Y v k).length=Y.length:=by rw [ru,List.length_append,List.length_map,List.length_take,List.length_drop];omega
theorem Rp {Y:List bW} {v:Bytes} {k:Nat} (h:k<Y.length):(ru Y v k)[k]? =Y[k]? :=by
 rw [ru,zD (by simp;omega),List.getElem?_drop];congr 1;simp;omega
theorem Pb {Y:List bW} {v:Bytes} {k:Nat} {x:bW} (h:Y[k]? =some x):ru Y v (k+1)=(ru Y v k).set k (wo v x):=by
 have hk:=aK h;have e:(ru Y v k).set k (wo v x)=(Y.take k).map (wo v)++(Y.drop k).set 0 (wo v x):=by
  rw [ru,List.set_append_right _ _ (by simp;omega)];congr 2;simp;omega
 rw [e,ru,zM,h,bq h];simp
def Xi:Nat→Option rE:=fun id=>if id=17 then some (.tail 7 [([0,1,2,3,4,5,6,7,8,9,10,11,12],[]),([0,1,2,3,4,5,6,7,8,9,11,10,12],[]),([0,1,2,3,4,5,6,7,8,10,9,11,12],[])]) else none
theorem Yc:List.range 13=[0,1,2,3,4,5,6,7,8,9,10,11,12]:=rfl
set_option maxHeartbeats 8000000 in
theorem Ou (t:aY)(l:List ay)(n:Int)(hn:Wi n)(hok: ∀p∈l,p.Ok∧p.plate.length≤1048576):aa Tryz.prog gl 9 [.agg (aA t),.ro (l.map ae),.int .i64 n] h fun v h'=>v= .bool true:=by
 refine aa.bodyN Xi Tryz.f9 _ mixed Tryz.func9 rfl rfl (by simp [Tryz.ntmps9]) ?_;have hx: ∀H:af,Rs 8 H (.ro (l.map ae)) (l.map ae):=fun H=>Rs.ro (yD l);have rt:=fun H:af=>Fh (gl:=gl) (h:=H) t l 16 (by omega) (hx H) hok;have aw:=fun H:af=>Fg (gl:=gl) (h:=H);simp only [aA] at rt;simp [av,aA,-aS];refine ax.pure _ (fun _=>rt _) ?_
 cases hr:iB t l 16 with
 | false=>
  simp [av,-aS];refine ax.pure _ (fun _=>aw _) ?_;simp [av]
 | true=>
  obtain⟨hS,hl⟩:=Df hr (fun p hp=>(hok p hp).1);have hL:=hS.L (by omega);have hE1:=IE hS.z hS.v (by omega);have hb20:(og t l).length<20:=by omega
  have c1:=fun H:af=>yS (gl:=gl) (h:=H) t l (hx H) hL hS.T hb20;have hol:=j6 l;have hst: ∀z∈dK (allT t l),z.stops.length≤1000000:=fun z hz=>by
   have:=ML t l z ((dB _).1 hz);omega
  have eT:allT t l=jB t (aW l) (dI (aW l)) (dI (aW l)).length:=by rw [jB,List.take_length];rfl
  have hbl:=Ba t (aW l) (dI (aW l)).length (dI (aW l));have hvl:=yT (aW l);have hTl:(dK (allT t l)).length≤1000000:=by
   rw [Dq,eT];have h1:(dI (aW l)).length*(17*(aW l).length)≤20*(17*20):=Nat.mul_le_mul (by omega) (by omega);exact Nat.le_trans hbl.1 (by omega)
  have hsok: ∀p∈aW l,p.Ok:=fun p hp=>(hok p (nG hp)).1;have fst:=fun H:af=>zP (gl:=gl) (h:=H) l (hx H) (fun p hp=>(hok p hp).1) (by omega);have vs:=fun H:af=>tJ (gl:=gl) (h:=H) (aW l) hsok (by omega);have oc:=fun (H:af) (v:Bytes)=>JS (gl:=gl) (h:=H) (aW l) v hsok (by omega);have hal: ∀v∈dI (aW l),DX (dK (allT t l)) v (dK (allT t l)).length=(dK (iN t (jM (aW l) v)).trips).map (wo v):=fun v hv=>by
   rw [DX,List.take_length];exact NA t l hv
  have hofE: ∀v,(iN t (jM (aW l) v)).out.length<20:=fun v=>by
   have h1:=KU hS.z (l:=aW (jM (aW l) v)) (fun p hp=>hS.v p (nG (jZ (nG hp)).1)) (Nat.le_trans (j6 _) (Nat.le_trans (lv _ _) (by omega))) (xO (aW (jM (aW l) v)));have h2:=j6 (jM (aW l) v);have h3:=lv (aW l) v;rw [iN];omega
  have bc:=fun (H:af) (v:Bytes)=>DN (gl:=gl) (h:=H) t (jM (aW l) v) (Rs.ro (yD _)) (hL.once.of v) hS.T (hofE v);clear eT hbl hb20 hE1;simp only [aA] at c1 bc;generalize dK (allT t l)=T at*;generalize aW l=S at*;generalize hV:dI S=V at*;simp [av,-aS];refine ax.pure _ (fun _=>fst _) ?_;simp [av,-aS];refine ax.pure _ (fun _=>vs _) ?_;simp [av,-aS];by_cases hV0:V=[]
  ·subst hV0;simp [av,-aS];refine ax.pure _ (fun _=>aw _) ?_;simp [av]
  ·have hVp:=List.length_pos_iff.2 hV0;have hm1:(n.tmod (V.length:Int)).natAbs<V.length:=by
    rw [Int.natAbs_tmod];exact Nat.mod_lt _ hVp
   simp [av,-aS,hV0];obtain⟨a,ha,e1,e2⟩: ∃a:Nat,a<V.length∧(n.tmod (V.length:Int)<0→IntKind.i64.wrap (n.tmod (V.length:Int)+(V.length:Int))=(a:Int))∧(0≤n.tmod (V.length:Int)→n.tmod (V.length:Int)=(a:Int)):=by
    by_cases c:n.tmod (V.length:Int)<0
    ·exact⟨(n.tmod (V.length:Int)+V.length).toNat,by omega,fun _=>by rw [aC (by omega) (by omega)];omega,fun c'=>by omega⟩
    ·exact⟨(n.tmod (V.length:Int)).toNat,by omega,fun c'=>absurd c' c,fun _=>by omega⟩
   obtain⟨v,hv,hv'⟩:=aJ ha;have hvm:=zF hv;have hA:=hal v hvm;have bcv:=fun H:af=>bc H v;have ocv:=fun H:af=>oc H v;obtain⟨Y,hY⟩: ∃Y,Y=dK (iN t (jM S v)).trips:=⟨_,rfl⟩;rw [←hY] at hA bcv;obtain⟨q,hq⟩: ∃q,q=h.length:=⟨_,rfl⟩;obtain⟨B,hB⟩: ∃B,B=h++[.cells 3 [aA t]]:=⟨_,rfl⟩;have hT3:B[q]? =some (.cells 3 [aA t]):=by rw [hB,hq];simp
   refine⟨fun c=> ?_,fun c=> ?_⟩;all_goals
    refine ax.pure _ (fun _=>c1 _) ?_;simp [av,-aS,e1,e2,c];refine aT.up mixed T.length (fun k fr H=>fr 3= .ptr q 0 0∧fr 7= .ro (S.map ae)∧fr 8= .ro (V.map aO)∧fr 9= .int .i64 a∧fr 10= .ro (T.map aD)∧fr 13= .int .i64 k∧(∃g,H=B++g)∧ ∃z,fr 12=z∧Ls 5 B.length H z ((DX T v k).map aD)) 0 (by omega)
     ⟨by simp [hq],by simp,by simp,by simp,by simp,by simp,⟨[.cells 5 []],by simp [hB,aA]⟩,_,by simp;rfl,?_⟩ ?_
    ·simpa [DX] using Ls.own (n:=5) (lo:=B.length) (b:=h.length+1) (h:=h++[.cells 3 [[.ro (t.net.pts.map jI),.ro (t.net.lks.map ja),.ro (t.sys.map dO)]],.cells 5 []]) (es:=[]) (len:=0) (by simp) (by rw [hB];simp) rfl (by simp)
    rintro k fr H hk ⟨f3,f7,f8,f9,f10,f13,hBH,z,f12,hz⟩;have hzf:=hz.rs.fix;have hlB:=bJ hBH;rcases zN k T.length with hlt | hge
    ·obtain⟨x,hxk,hxk'⟩:=aJ hlt;have ew:=aB (i:=k) (by omega);have hltI:(k:Int)<T.length:=by omega
     have hs:=PI (v:=v) hxk;have hvl:=Ku T v k;by_cases d:x.veh=v
     ·rw [if_pos d] at hs;simp [av,-aj,-au,-ah,-AV.solid,aO,aD,f3,f7,f8,f9,f10,f12,f13,hlt,hxk,hxk',ha,hv,hv',hzf,d];refine⟨by decide,?_⟩;refine aN (lo:=B.length) (n:=5) (es:=(DX T v k).map aD) (ys:=[aD x]) (by simpa [aD,d] using hz.more _) (by simp;omega) (by simp [bE,aD,d]) (by simp;omega) ?_;intro s1 H1 hs1 hg1 hn1;have hs1f:=hs1.rs.fix;have hB1:=hg1.base B (by omega) (aI hBH _);simp [av,-aj,-au,-ah,-AV.solid,f3,f7,f8,f9,f10,f13,hs1f,ew];exact⟨k+1,by omega,by omega,by omega,hB1,by rw [hs];simpa using hs1⟩
     ·rw [if_neg d] at hs;simp [av,aO,aD,f3,f7,f8,f9,f10,f12,f13,hlt,hxk,hxk',ha,hv,hv',hzf,d];refine⟨by decide,?_⟩;simp [av,f3,f7,f8,f9,f10,f12,f13,hzf,ew];exact⟨k+1,by omega,by omega,by omega,hBH,by rw [hs];exact hz⟩
    ·obtain rfl:k=T.length:=by omega
     rw [hA] at hz;simp [-aS,f3,f7,f8,f9,f10,f12,f13,hzf];rw [aS];simp only [Xi,if_true];refine⟨by decide+kernel,?_⟩;obtain⟨N0,hN0⟩: ∃N0,N0=H.length:=⟨_,rfl⟩;generalize hK:gN _ _ Exit.normal=K;have key: ∀(fr':aG) (H':af) (y:AV),fr' 8= .ro (V.map aO)→fr' 9= .int .i64 a→fr' 12=z→fr' 14=y→Ls 5 N0 H' y (Y.map aD)→(∃g,H'=H++g)→K fr' H':=by
      intro fr' H' y g8 g9 g12 g14 hy hgH;rw [←hK];simp [g8,g9,g12,g14];have hz':Ls 5 B.length H' z ((Y.map (wo v)).map aD):=by
       obtain⟨g,hg⟩:=hgH;rw [hg];exact hz.more _
      have hzin: ∀b off len,z= .own b off len→b<N0:=fun b off len e=>by rw [hN0];exact hz.inside b off len e
      have hYl:Y.length≤1000000:=by
       have:=congrArg List.length hA;rw [List.length_map] at this;have:=Ku T v T.length;omega
      refine aT.up mixed Y.length (fun k fr G=>fr 8= .ro (V.map aO)∧fr 9= .int .i64 a∧fr 12=z∧fr 14=y∧fr 16= .int .i64 k∧Ls 5 N0 G y ((ru Y v k).map aD)∧Ls 5 B.length G z ((Y.map (wo v)).map aD)) 0 (by omega)
       ⟨by simp [g8],by simp [g9],by simp [g12],by simp [g14],by simp,by simpa [ru] using hy,hz'⟩ ?_
      clear g8 g9 g12 g14 hy hz' hgH;rintro k fr G hk ⟨g8,g9,g12,g14,g16,hy,hz2⟩;have hyf:=hy.rs.fix;have hyl:=hy.rs.len2;have hsl:=Dk Y v k;rcases zN k Y.length with hlt | hge
      ·obtain⟨x,hxk,hxk'⟩:=aJ hlt;have ew:=aB (i:=k) (by omega);have hltI:(k:Int)<Y.length:=by omega
       have hs:=Pb (v:=v) hxk;have hek:((ru Y v k).map aD)[k]? =some (aD x):=by rw [List.getElem?_map,Rp hlt,hxk];rfl
       have hel:((ru Y v k).map aD).length=Y.length:=by rw [List.length_map,hsl]
       have hset:((ru Y v k).map aD).set k (aD (wo v x))=(ru Y v (k+1)).map aD:=by rw [hs,List.map_set]
       obtain⟨hy1,hyn⟩:=hy;generalize (ru Y v k).map aD=es at*;rcases hy1 with⟨_,e0⟩ | ⟨b,rfl,hbl,hb⟩
       ·rw [e0] at hel;simp at hel;omega
       ·have hP3:=at3 hb;have hke:k<es.length:=by omega
        have hek':es[k]=aD x:=by have:=hek;rw [zB hke] at this;simpa using this
        simp [g8,g9,g12,g14,g16,hP3,hel,hlt,hltI,ha,hv,hv',aO,hek,hek',hke];rw [show List.take 1 (aD x)++AV.str v::List.drop 2 (aD x)=aD (wo v x) from rfl,hset];refine⟨k+1,by omega,by omega,by omega,Ls.own (zI (aK hb)) hbl (by rw [List.length_map,Dk]) (Tu _),?_⟩;rw [←List.map_map];exact hz2.keep' fun b' len o e ho=>by
         have:=hzin _ _ _ e;rw [zJ (by omega)];exact ho
      ·obtain rfl:k=Y.length:=by omega
       have he:ru Y v Y.length=Y.map (wo v):=by simp [ru]
       rw [he] at hy;have sm:=LQ (gl:=gl) (h:=G) (Y.map (wo v)) hz2.rs hy.rs (by simp;exact hYl) fun z hz=>by
        rw [←hA] at hz;exact hst z (List.mem_of_mem_take (List.mem_filter.1 hz).1)
       have hzf2:=hz2.rs.fix;simp at hyl;simp [av,g8,g9,g12,g14,g16,hyf,hzf2,hyl,Dk];refine ax.pure _ (fun _=>by exact sm) ?_;simp [av];refine ax.pure _ (fun _=>aw _) ?_;simp [av]
     obtain⟨g0,hg0⟩:=hBH;have hT5:=at3 (show H[q]? =some (.cells 3 [aA t]) by rw [hg0];exact aP hT3 _);simp only [aA] at hT5;rw [qL,qL,qL];refine⟨⟨⟨by decide+kernel,by decide+kernel⟩,?_⟩,⟨⟨by decide+kernel,by decide+kernel⟩,?_⟩,⟨⟨by decide+kernel,by decide+kernel⟩,?_⟩,trivial⟩;all_goals
      simp [aR,ko,mI,uS,kP,cK,Yc,av,aO,f3,f7,f8,f9,f10,f12,ha,hv,hv',hT5];refine ax.pure _ (fun _=>ocv _) ?_;simp [aR,ko,mI,uS,kP,cK,Yc,av,aO,f3,f7,f8,f9,f10,f12,hT5];refine ax.any (bcv _) ?_;rintro _ H' ⟨y,w,rfl,hy,hw,hg⟩;have hyf:=hy.rs.fix;have hwf:=hw.rs.fix;simp [aR,ko,mI,uS,kP,cK,Yc,av,f3,f7,f8,f9,f10,f12,hyf,hwf];exact key _ _ y (by simp [f8]) (by simp [f9]) (by simp [f12]) (by simp) (by rw [hN0];exact hy) hg
end Go.Proofs.YtkpioblbeiaefaaGreat
