/- Part 22 of the lemmas below the statements of this seat: Part, InferA, TripG. -/
import Derived.Test.YtkpioblbeiaefaaGreatPr15
import Derived.Test.YtkpioblbeiaefaaGreatPr20
import Derived.Test.YtkpioblbeiaefaaGreatPr21
set_option linter.unusedSectionVars false
set_option linter.unusedVariables false
set_option linter.unusedSimpArgs false
set_option linter.unnecessarySimpa false
set_option maxRecDepth 100000
section
namespace Go.Proofs.YtkpioblbeiaefaaGreat
open Go Go.Abs Go.Toll
variable {gl : aM} {h : af}
theorem Lf (d num den:Nat)(hd:d<68719476736)(hn:num≤den)(h0:0<den)(h1:den<9223372036854775808):aa Tryz.prog gl 171 [.int .i64 d,.int .i64 num,.int .i64 den] h fun v h'=>v= .int .i64 ((d*num / den:Nat):Int)∧h'=h:=by
 refine aa.data (.int _ _) (aa.body Tryz.f171 _ mixed Tryz.func171 rfl rfl (by simp [Tryz.ntmps171]) ?_);have wd:IntKind.u64.wrap (d:Int)=(d:Int):=bF (by omega);have wn:IntKind.u64.wrap (num:Int)=(num:Int):=bF (by omega);have wden:IntKind.u64.wrap (den:Int)=(den:Int):=bF (by omega);have hle:=part_le (d:=d) hn h0;have hlt:d*num / 18446744073709551616<den:=by
  rw [Nat.div_lt_iff_lt_mul (by omega)];have h2:d*num≤d*den:=Nat.mul_le_mul_left _ hn;have h3:d*den≤68719476736*den:=Nat.mul_le_mul_right _ (by omega);omega
 have hsp:(d*num / 18446744073709551616*18446744073709551616+d*num % 18446744073709551616)=d*num:=Nat.div_add_mod' _ _;have c1:=fun H:af=>NT (gl:=gl) (h:=H) d num (by omega) (by omega);have c2:=fun H:af=>NR (gl:=gl) (h:=H) (d*num / 18446744073709551616) (d*num % 18446744073709551616) den (Nat.mod_lt _ (by omega)) h1 hlt;rw [hsp] at c2;generalize d*num / 18446744073709551616=A at*;generalize d*num % 18446744073709551616=B at*;generalize hP:d*num / den=P at*;have wp:IntKind.i64.wrap (P:Int)=(P:Int):=aC (by omega) (by omega);simp [wd,wn,wden];refine ax.pure _ (fun _=>c1 _) ?_;simp [wd,wn,wden];refine ax.any (c2 _) ?_;rintro x h' ⟨⟨r,rfl⟩,rfl⟩;simp [wp]
end Go.Proofs.YtkpioblbeiaefaaGreat
end
section
namespace Go.Proofs.YtkpioblbeiaefaaGreat
open Go Go.Abs Go.Toll
variable {gl : aM} {h : af}
theorem qm (t:Int):aa Tryz.prog gl 140 [.int .i64 t] h fun x h'=>x= .bool (bK t)∧h'=h:=by
 refine aa.body Tryz.f140 _ mixed Tryz.func140 rfl rfl (by simp [Tryz.ntmps140]) ?_;simp [bK]
def QB (v:bn)(a b:Bytes)(s t:Int):AV:= .tup [.ro ((fu v a b s t).1.map aO),.int .i64 (fu v a b s t).2]
theorem O6 {v:bn} (a b:Bytes)(s t:Int):((cZ v a b s t).2≠0→(cZ v a b s t).1=[])∧((cZ v a b s t).2=0→(cZ v a b s t).1≠[]):=by
 unfold cZ;split
 ·simp
 split
 ·simp
 split
 ·rename_i h;exact⟨fun _=>rfl,fun e=>absurd e h⟩
 split
 ·simp
 ·rename_i h;exact⟨fun e=>absurd rfl e,fun _=>h⟩
theorem Ol (q:List Bytes):(List.take (q.length - 1) (List.map aO q)).tail=(vH q).map aO:=by rw [vH,←List.map_take,List.drop_one,List.map_tail]
set_option maxHeartbeats 2000000 in
theorem En (t:aY)(a b:ay)(hp:t.net.pts.length≤1000)(hl:t.net.lks.length≤1000)(hs:t.sys.length≤1000):aa Tryz.prog gl 141 [.agg (aA t),.agg (ae a),.agg (ae b)] h fun x h'=>x=QB (aH t).net a.point b.point a.time b.time∧h'=h:=by
 refine aa.fresh' (aa.body Tryz.f141 _ mixed Tryz.func141 rfl rfl (by simp [Tryz.ntmps141]) ?_);have c1:=fun H:af=>DK (gl:=gl) (h:=H) t a b hp hl hs;have ok:=SV t;have h2:=O6 (v:=(aH t).net) a.point b.point a.time b.time;have hat: ∀q∈(cZ (aH t).net a.point b.point a.time b.time).1,2≤q.length∧q.length≤16:=fun q hq=>⟨(Di ok hq).2,by obtain⟨l,w,hp,_⟩:=Dh ok hq;exact hp.len⟩;unfold tK at c1;unfold QB fu;generalize cZ (aH t).net a.point b.point a.time b.time=R at*;obtain⟨L,E⟩:=R;simp only at c1 h2 hat;simp;refine ax.pure _ (fun _=>c1 _) ?_;by_cases hE:E=0
 ·subst hE;obtain⟨q,r,rfl⟩:=List.exists_cons_of_ne_nil (h2.2 rfl);obtain⟨hq,hq16⟩:=hat q (by simp);have hie:=Ol q;by_cases hr:r=[]
  ·subst hr;have d1: ¬(q.length:Int)<2:=by omega
   have d1': ¬q.length<2:=by omega
   have ew:IntKind.i64.wrap ((q.length:Int) - 1)=((q.length - 1:Nat):Int):=by rw [aC (by omega) (by omega)];omega
   have hin:(List.map aO q).take (q.length - 1)=(q.take (q.length - 1)).map aO:=by rw [List.map_take]
   simp [gq,d1,d1',ew];rw [hie];refine⟨by decide,⟨fun s _=>rfl,by omega⟩,.data _ ?_⟩;simp;exact fun s hs x hx=>gM (vH q) (aO s) (List.mem_map_of_mem hs) x hx
  ·have hrl:1<(q::r).length:=by have:=List.length_pos_iff.2 hr;simp;omega
   have hrl':0<r.length:=List.length_pos_iff.2 hr;have hr1:(1:Int)<(r.length:Int)+1:=by omega
   have hr2: ¬((r.length:Int)+1≤1):=by omega
   simp [hrl,hrl',hr1,hr2];exact fI
 ·obtain rfl:=h2.1 hE;simp [hE];exact fI
def MB (v:bn)(p:List Bytes)(s t:Int):AV:= .tup [.ro ((DJ v p s t).1.map oM),.int .i64 (DJ v p s t).2]
theorem SQ (l:List Int): ∀e∈l.map oM,∀y∈e,y.Data:=by
 intro e he y hy;obtain⟨m,_,rfl⟩:=List.mem_map.1 he;simp [oM] at hy;subst hy;simp
theorem Kg {v:bn} (p:List Bytes)(s t:Int)(h:fP v p 1=0):dV v p s t 0=s:=by rw [dV,h];simp
theorem Mr {v:bn} {p:List Bytes} {s t:Int} {k:Nat} (hs:bK s=true)(ht:bK t=true)(hst:s≤t)(hle:fP v p (k+1)≤fP v p p.length)(h0:1≤fP v p p.length):s≤dV v p s t k∧dV v p s t k≤t:=by
 have h:=part_le (d:=(t - s).toNat) hle h0;unfold dV;generalize (t - s).toNat* fP v p (k+1) / fP v p p.length=P at*;omega
set_option maxHeartbeats 4000000 in
theorem Jj (t:aY)(p:List Bytes)(a b:Int)(hp:t.net.pts.length≤1000)(hl:t.net.lks.length≤1000)(hs:t.sys.length≤1000)(hpl:p.length≤1000000):aa Tryz.prog gl 142 [.agg (aA t),.ro (p.map aO),.int .i64 a,.int .i64 b] h fun x h'=>x=MB (aH t).net p a b∧h'=h:=by
 refine aa.fresh' (aa.body Tryz.f142 _ mixed Tryz.func142 rfl rfl (by simp [Tryz.ntmps142]) ?_);unfold MB DJ;by_cases c1:16<p.length
 ·have c1':(16:Int)<p.length:=by omega
  simp [c1,c1'];exact fI
 have c1': ¬(16:Int)<p.length:=by omega
 simp [c1,c1'];refine ax.pure _ (fun _=>qm a) ?_
 cases ha:bK a with
 | false=>
  simp;refine ax.pure (.bool true) (fun c=>by cases c) ?_;simp;exact fI
 | true=>
  simp;refine ax.pure _ (fun _=>qm b) ?_
  cases hb:bK b with
  | false=>
   simp;exact fI
  | true=>
   by_cases hab:b<a
   ·have hab': ¬a≤b:=by omega
    simp [hab,hab'];exact fI
   have hab':a≤b:=by omega
   have ra:=fq ha;have rb:=fq hb;simp [hab,hab'];refine ax.pure _ (fun _=>tT t hp hl hs) ?_;by_cases hz:bX t=0
   ·have hv:aH t=t:=by rw [aH,if_pos hz]
    have hvn:cu t.net=t.net:=by rw [cu,if_pos (nZ hz).1]
    have ok:aV t.net:=uk (nZ hz).1;rw [hv];have c2:=fun (H:af) (q:List Bytes) (hq:q.length≤1000000)=>qj (gl:=gl) (h:=H) t.net q hp hl hq;rw [hvn] at c2;simp [hz];refine ax.pure _ (fun _=>c2 _ p hpl) ?_;by_cases hE:(bM t.net p).2.2=0
    ·obtain⟨l1,l2,l3,l4,l5⟩:=G5 ok hE (by omega);have htk:=fun k h1 h2=>rR ok hE (k:=k) h1 h2;have c3: ∀(H:af) (k:Nat),1≤k→k≤p.length→aa Tryz.prog gl 170 [.agg (bU t.net),.ro ((p.map aO).take k)] H fun x h'=>x= .tup [.int .i64 (fP t.net p k:Nat),.int .i64 (bM t.net (p.take k)).2.1,.int .i64 0]∧h'=H:=fun H k h1 h2=>by
      have:=c2 H (p.take k) (by simp;omega);obtain⟨t1,t2,_⟩:=htk k h1 h2;rw [t1,t2,List.map_take] at this;exact this
     obtain⟨D,hD⟩: ∃D:Nat,D=(b - a).toNat:=⟨_,rfl⟩;have ewd:IntKind.i64.wrap (b - a)=(D:Int):=by rw [aC (by omega) (by omega)];omega
     have rng: ∀k,1≤k→k<p.length→a≤dV t.net p a b k∧dV t.net p a b k≤b:=fun k h1 h2=>Mr ha hb hab' (htk (k+1) (by omega) (by omega)).2.2 (l3 (by omega));simp [hE];rw [l1];refine aT.up mixed p.length (fun j fr H=>fr 1= .ro (p.map aO)∧fr 2= .int .i64 a∧fr 3= .int .i64 b∧fr 4= .ptr h.length 0 0∧fr 10= .int .i64 (fP t.net p p.length:Nat)∧1≤j∧fr 14= .int .i64 (j+1:Nat)∧H[h.length]? =some (.cells 3 [aA t])∧(∃g,H=h++g)∧ ∃x,fr 13=x∧Ls 1 (h.length+1) H x ((qM t.net p a b j).map oM)) 1 l5
      ⟨by simp,by simp,by simp,by simp,by simp,by omega,by simp,by simp,by simp,_,by simp;rfl,?_⟩ ?_
     ·have e0:qM t.net p a b 1=[a]:=by rw [zV,Kg p a b l4];rfl
      rw [e0];exact Ls.own (by simp [oM]) (by omega) rfl (by simp)
     rintro j fr H hj ⟨e1,e2,e3,e4,e10,hj1,e14,hT,hB,x,e13,hx⟩;have hT3:=at3 hT;simp only [aA] at hT3;have hxf:=hx.rs.fix;have hlen:=hT3.2.1;have htl:=Mv t.net p a b j;rcases zN j p.length with hlt | hge
     ·have hlt':((j+1:Nat):Int)≤p.length:=by omega
      have hlt2:j+1≤p.length:=by omega
      have ew:IntKind.i64.wrap (((j+1:Nat):Int)+1)=((j+1+1:Nat):Int):=by rw [aC (by omega) (by omega)];omega
      have htn:(((j+1:Nat):Int)).toNat=j+1:=by omega
      have hsuc:=zV t.net p a b j;have hr:=rng j hj1 hlt;have ewt:IntKind.i64.wrap (a+((D*fP t.net p (j+1) / fP t.net p p.length:Nat):Int))=dV t.net p a b j:=by
       have:a+((D*fP t.net p (j+1) / fP t.net p p.length:Nat):Int)=dV t.net p a b j:=by rw [hD];rfl
       rw [this];exact aC (by omega) (by omega)
      have c5:=fun H:af=>Lf (gl:=gl) (h:=H) D (fP t.net p (j+1)) (fP t.net p p.length) (by omega) (htk (j+1) (by omega) (by omega)).2.2 (l3 (by omega)) (by omega);simp [-Int.natCast_add,-aj,-au,-ah,-AV.solid,e1,e2,e3,e4,e10,e14,e13,hlt',hlt2,hT3,hxf,htn];refine⟨by decide,?_⟩;refine⟨fun s _=>rfl,?_⟩;refine ax.pure _ (fun _=>c3 _ (j+1) (by omega) (by omega)) ?_;simp [-Int.natCast_add,-Int.natCast_ediv,-Int.natCast_mul,-aj,-au,-ah,-AV.solid,e1,e2,e3,e4,e10,e14,e13,hT3,hxf,ewd];refine ax.pure _ (fun _=>c5 _) ?_;simp [-Int.natCast_add,-Int.natCast_ediv,-Int.natCast_mul,-aj,-au,-ah,-AV.solid,e1,e2,e3,e4,e10,e14,e13,hT3,hxf,ewd,ewt];refine aN (lo:=h.length+1) (n:=1) (es:=(qM t.net p a b j).map oM) (ys:=[oM (dV t.net p a b j)]) (by simpa [oM] using hx.more _) (by simp;omega) (by simp [bE,oM]) (by simp;omega) ?_;intro s1 H1 hs1 hg1 hn1;have hs1f:=hs1.rs.fix;have hB1:=hg1.base h (by omega) (aI hB _);have hT1:=hg1.keep _ _ (aP hT _) fun off len e=>by have:=hx.above _ _ _ e;omega
      simp [-Int.natCast_add,-Int.natCast_ediv,-Int.natCast_mul,-aj,-au,-ah,-AV.solid,e1,e2,e3,e4,e10,e14,hs1f,ew];exact⟨j+1,by omega,by omega,by omega,by omega,hT1,hB1,by rw [hsuc];simpa using hs1⟩
     ·have hge': ¬((j+1:Nat):Int)≤p.length:=by omega
      have hge2: ¬j+1≤p.length:=by omega
      obtain rfl:j=p.length:=by omega
      rw [Mt] at hx;simp [-Int.natCast_add,e1,e2,e3,e4,e10,e14,e13,hge',hge2,hxf];exact⟨hB,.tup' (.cons (hx.frz (by omega) (SQ _)) (.cons (.data _ (by simp)) .nil))⟩
    ·simp [hE];exact fI
   ·have hv:aH t=FX:=by rw [aH,if_neg hz]
    rw [hv];have hb0: ∀q:List Bytes,bM ⟨[],[]⟩ q=(0,0,16):=fun q=>by
     cases q with
     | nil=>rfl
     | cons x q=>exact y5 (by simp) ⟨x,by simp,rfl⟩
    have c2:=fun (H:af)=>qj (gl:=gl) (h:=H) ⟨[],[]⟩ p (by simp) (by simp) hpl;have hvn:cu ⟨[],[]⟩=⟨[],[]⟩:=by decide
    rw [hvn,hb0] at c2;have c3: ∀H:af,aa Tryz.prog gl 170 [.agg [.nil,.nil],.ro (p.map aO)] H fun x h'=>x= .tup [.int .i64 0,.int .i64 0,.int .i64 16]∧h'=H:=fun H=>
     aa.lend [] (.cons (.agg' (.cons .nil (.cons .nil .nil))) (.cons (.same _) .nil)) (c2 H)
    have hbt:bM FX.net p=(0,0,16):=hb0 p;simp [hz,hbt];refine ax.pure _ (fun _=>c3 _) ?_;simp;exact fI
end Go.Proofs.YtkpioblbeiaefaaGreat
namespace Go.Proofs.YtkpioblbeiaefaaGreat
open Go Go.Abs Go.Toll
variable {gl : aM} {h : af}
theorem Ot (t:aY)(s:Bytes):kindOf t s=0↔aF (aH t).net.pts s=false:=by
 rw [kindOf,dF,if_pos (fE t)]
 cases hf:(aH t).net.pts.find? fun p=>decide (p.name=s) with
 | none=>
  refine⟨fun _=> ?_,fun _=>rfl⟩;rw [aF,List.any_eq_false];intro p hp;simpa using List.find?_eq_none.1 hf p hp
 | some p=>
  have hm:=List.mem_of_find?_eq_some hf;have he:=List.find?_some hf;have h1:=(jY (fE t) p hm).2.1;have:aF (aH t).net.pts s=true:=by rw [aF,List.any_eq_true];exact⟨p,hm,he⟩
  rw [this];simp;omega
theorem MU {P:Program} {t u:TypeId} {n b off len:Nat} {H:af} {x:AV} {es ys:List (List AV)} {k:AV→af→Prop} (r:Rs n H x ys)(hk:match (ai P t).kind with | .slice e=>(ai P e).ok=true∧(ai P e).cells=n∧0<n | _=>False)
  (hb:H[b]? =some (.cells n es)) (ho:off+len≤es.length) (hl:ys.length≤len) (hc:k (.int .i64 ys.length) (H.set b (.cells n (es.take off++ys++es.drop (off+ys.length))))):si P H [t,u] (.own b off len) x∧r9 n H (.own b off len) x k:=by
 have hcb:hcells H b=es:=by rw [hcells,hb]
 have hsb:hsz H b=n:=by rw [hsz,hb]
 unfold si r9;simp only;split at hk
 ·obtain⟨h1,h2,h3⟩:=hk;simp only [*];rw [r.aelems];exact⟨⟨trivial,trivial,r.slOk,r.len,trivial,trivial,hl⟩,hc⟩
 ·exact hk.elim
theorem Jk (t:aY)(l:List ay)(hp:t.net.pts.length≤1000)(hl:t.net.lks.length≤1000)(hs:t.sys.length≤1000)(hn:l.length≤1000000):aa Tryz.prog gl 107 [.agg (aA t),.ro (l.map ae)] h fun x h'=>x= .int .i64 (ed (aH t).net l)∧h'=h:=by
 refine aa.data (by simp) (aa.body Tryz.f107 _ mixed Tryz.func107 rfl rfl (by simp [Tryz.ntmps107]) ?_);by_cases c1:1024<l.length
 ·have c1':(1024:Int)<l.length:=by omega
  simp [ed,c1,c1']
 have c1': ¬(1024:Int)<l.length:=by omega
 simp [ed,c1,c1'];refine aT.up mixed l.length (fun i fr H=>fr 1= .ro (l.map ae)∧fr 2= .ptr h.length 0 0∧fr 10= .ro (l.map ae)∧fr 11= .int .i64 l.length∧fr 12= .int .i64 i∧gZ (aH t).net none l=gZ (aH t).net (Ec l i) (l.drop i)∧ ∃g,H=h++ .cells 3 [aA t]::g) 0 (by omega)
  ⟨by simp,by simp,by simp,by simp,by simp,by simp [Ec],[],by simp⟩ ?_
 rintro i fr H hi ⟨e1,e2,e10,e11,e12,he,g,rfl⟩;rw [he];rcases zN i l.length with hlt | hge
 ·obtain⟨p,hg,hg'⟩:=aJ hlt;have ew:=aB (i:=i) (by omega);have hk:=Ot t p.point;rw [mO hg] at he ⊢;simp [e1,e2,e10,e11,e12,hlt,hg,hg',ew];refine ax.pure _ (fun _=>jg t p.point hp hl hs) ?_
  cases hpt:aF (aH t).net.pts p.point with
  | false=>
   rw [hpt] at hk;simp [hk.2 rfl]
  | true=>
   rw [hpt] at hk;have hk0: ¬kindOf t p.point=0:=fun c=>by simpa using hk.1 c
   simp [hk0];refine ax.pure _ (fun _=>qm p.time) ?_
   cases hti:bK p.time with
   | false=>simp
   | true=>
    simp
    cases i with
    | zero=>
     simp [Ec,e1,e2,e10,e11,e12,hg];refine⟨by decide,?_⟩;exact⟨1,by omega,by omega,by decide,by simp [hg]⟩
    | succ j=>
     obtain⟨q,hq,hq'⟩:=aJ (l:=l) (i:=j) (by omega);have hj:j<l.length:=by omega
     have w1:IntKind.i64.wrap (((j+1:Nat):Int) - 1)=(j:Int):=by rw [aC (by omega) (by omega)];omega
     have w1':IntKind.i64.wrap ((j:Int)+1 - 1)=(j:Int):=by rw [aC (by omega) (by omega)];omega
     have hpos:(0:Int)<(j:Int)+1:=by omega
     have w0:IntKind.i64.wrap (j:Int)=(j:Int):=aC (by omega) (by omega);have w2:IntKind.i64.wrap ((j:Int)+1+1)=((j+1+1:Nat):Int):=by rw [aC (by omega) (by omega)];omega
     simp [Ec,e1,e2,e10,e11,e12,hg,hq,hq',hj,w1,w1',hpos,w0,w2];exact⟨by decide,fun c d=>by omega,fun c=>⟨j+1+1,by omega,by omega,by omega,by rw [if_neg (by omega)];simp [hg]⟩⟩
 ·obtain rfl:i=l.length:=by omega
  simp [e1,e2,e10,e11,e12,gZ]
theorem BZ {a b:List (List AV)} {x y:AV} (hx:Rs 3 h x a)(hy:Rs 3 h y b)(ha:a.length≤1000000)(hb:b.length≤1000000):aa Tryz.prog gl 109 [x,y] h fun v h'=>v= .own h.length 0 (a.length+b.length)∧h'=h++[.cells 3 (a++b)]:=by
 refine aa.body Tryz.f109 _ mixed Tryz.func109 rfl rfl (by simp [Tryz.ntmps109]) ?_;have fx:=hx.fix;have fy:=hy.fix;have lx:=hx.len2;have ly:=hy.len2;have ew:IntKind.i64.wrap ((a.length:Int)+(b.length:Int))=((a.length+b.length:Nat):Int):=by rw [aC (by omega) (by omega)];omega
 simp [-si,-r9,-Int.natCast_add,fx,fy,lx,ly,ew];refine⟨by omega,?_⟩;obtain⟨Z,hZ⟩: ∃Z:List (List AV),Z=List.replicate (a.length+b.length) [AV.str [],AV.int IntKind.i64 0,AV.str []]:=⟨_,rfl⟩;have hZl:Z.length=a.length+b.length:=by rw [hZ];simp
 rw [←hZ];refine MU (es:=Z) (hx.append _) (by simp) (by simp) (by omega) (by omega) ?_;have hy2:=hy.append [.cells 3 (a++Z.drop a.length)];have ly2:=hy2.len2;have hl1:(a.length:Int)≤((a.length+b.length:Nat):Int):=by omega
 have hdl:(Z.drop a.length).length=b.length:=by rw [List.length_drop];omega
 simp [-si,-r9,-Int.natCast_add,fx,fy,lx,ly,ly2,hl1,hdl];refine MU (es:=a++Z.drop a.length) hy2 (by simp) (by simp) (by simp [hdl]) (by omega) ?_;simp [hdl];omega
theorem Yb:List.range 10=[0,1,2,3,4,5,6,7,8,9]:=rfl
def SK:Nat→Option rE:=fun id=>if id=4 then some (.perm [([0,1,2,3,4,5,6,7,8,9],[(6,0),(6,3)]),([0,1,2,3,5,6,7,4,8,9],[(5,0)]),([0,1,3,5,6,7,2,4,8,9],[(1,6)])]) else none
theorem JI {P:Program} {N:Nat} {ops:Array Oper} {K:aG→af→Prop} {fr:aG} {h:af} {ps:List (List Nat×List (Nat×Nat))} (I:aG→af→Prop)(h0:I fr h)(k: ∀fr h,I fr h→mP P gl N ops K fr h ps):mP P gl N ops K fr h ps:=k fr h h0
theorem SN {v:bn} {a b:Bytes} {s t:Int} (h:(fu v a b s t).2≠0):(fu v a b s t).1=[]:=by
 unfold fu at h ⊢;split
 ·rfl
 ·split
  ·rfl
  ·rename_i h1 h2;rw [if_neg h1,if_neg h2] at h;exact absurd rfl h
theorem Mw {v:bn} {p:List Bytes} {s t:Int} {k:Nat} (h:k<p.length):(qN v p s t)[k]? =some (dV v p s t k):=by simp [qN,h]
theorem Mx (v:bn)(p:List Bytes)(s t:Int):(qN v p s t).length=p.length:=by simp [qN]
set_option maxHeartbeats 8000000 in
theorem Eo (t:aY)(a b:ay)(hp:t.net.pts.length≤1000)(hl:t.net.lks.length≤1000)(hs:t.sys.length≤1000):aa Tryz.prog gl 108 [.agg (aA t),.agg (ae a),.agg (ae b)] h fun x h'=>Ls 3 h.length h' x ((l8 (aH t).net a b).map ak)∧ ∃g,h'=h++g:=by
 refine aa.bodyN SK Tryz.f108 _ mixed Tryz.func108 rfl rfl (by simp [Tryz.ntmps108]) ?_;have ok:=SV t;have c1:=fun H:af=>En (gl:=gl) (h:=H) t a b hp hl hs;have c2:=fun (H:af) (p:List Bytes)=>Jj (gl:=gl) (h:=H) t p a.time b.time hp hl hs;have hnz:=fun h=>SN (v:=(aH t).net) (a:=a.point) (b:=b.point) (s:=a.time) (t:=b.time) h;have hok:=fun h=>AB ok (a:=a.point) (b:=b.point) (s:=a.time) (t:=b.time) h;unfold QB at c1;unfold l8;generalize fu (aH t).net a.point b.point a.time b.time=M at*;obtain⟨m,E⟩:=M;simp only at c1 hnz hok;simp [SK,-aS];refine ax.pure _ (fun _=>c1 _) ?_;by_cases hE:E=0
 ·subst hE;obtain⟨o1,o2,o3,o4,o5,o6,_⟩:=hok rfl;by_cases hm:m=[]
  ·subst hm;simp [nR];exact Ls.nil
  ·have hm1:0<m.length:=List.length_pos_iff.2 hm;have hm2:m.length≤14:=by simp at o2;omega
   have hm3: ¬((m.length:Int)=0):=by omega
   obtain⟨path,hpath⟩: ∃path,path=a.point::(m++[b.point]):=⟨_,rfl⟩;have hpl:path.length=m.length+2:=by rw [hpath];simp
   rw [←hpath] at o1 o2 o6;simp [hm,hm3,-aS];rw [aS];simp only [SK,if_true];refine⟨by decide,?_⟩;generalize hK:gN _ _ Exit.normal=K;have key: ∀fr' h' x,fr' 3= .ptr h.length 0 0→fr' 4= .ptr (h.length+1) 0 0→fr' 5= .ptr (h.length+2) 0 0→fr' 7= .ro (m.map aO)→fr' 9=x→Ls 1 (h.length+3) h' x (path.map aO)→
     h'[h.length]? =some (.cells 3 [aA t])→h'[h.length+1]? =some (.cells 8 [ae a])→h'[h.length+2]? =some (.cells 8 [ae b])→(∃g,h'=h++g)→K fr' h':=by
    rintro fr H x e3 e4 e5 e7 e9 hx hT hA hB hBase;rw [←hK];have hT3:=at3 hT;have hA3:=at3 hA;have hB3:=at3 hB;simp only [aA,dz] at hT3 hA3 hB3;have hlen:=hB3.2.1;have hxf:=hx.rs.fix;obtain⟨ks,hks,hfr⟩:=hx.lend;simp [-aj,-au,-ah,-AV.solid,e3,e4,e5,e7,e9,hT3,hA3,hB3,hxf];have hbk: ∀b∈ks,h.length≤b:=fun b hb=>by have:=(hks b hb).1;omega
    have hcall: ∀H':af,aa Tryz.prog gl 142 [.agg (aA t),.ro (path.map aO),.int .i64 a.time,.int .i64 b.time] H' fun x h'=>x= .tup [.ro ((qN (aH t).net path a.time b.time).map oM),.int .i64 0]∧h'=H':=fun H'=>by
     have:=c2 H' path (by omega);rw [MB,o6] at this;exact this
    refine ax.any (aa.lend ks (.cons (.same _) (.cons hfr (.cons (.same _) (.cons (.same _) .nil)))) (hcall _)) ?_;rintro r H2 ⟨rfl,rfl⟩;have hBase2: ∃g,killL H ks=h++g:=by obtain⟨g,e⟩:=hBase;rw [e];exact kQ ks h g hbk
    obtain⟨H3,hH3⟩: ∃H3,H3=killL H ks:=⟨_,rfl⟩;rw [←hH3] at hBase2 ⊢;have hlen2:H3.length=H.length:=by rw [hH3];exact jJ _ _
    have htl:=Mx (aH t).net path a.time b.time;obtain⟨TL,hTL⟩: ∃TL,TL=qN (aH t).net path a.time b.time:=⟨_,rfl⟩;rw [←hTL] at htl ⊢;have htg: ∀k,k<path.length→TL[k]? =some (dV (aH t).net path a.time b.time k):=fun k hk=>by rw [hTL];exact Mw hk
    simp [-aj,-au,-ah,-AV.solid,e3,e4,e5,e7];refine aT.upN SK mixed m.length (fun k fr H=>fr 49= .ro (m.map aO)∧fr 50= .int .i64 m.length∧fr 51= .int .i64 k∧fr 10= .ro (TL.map oM)∧(∃g,H=h++g)∧ ∃x,fr 11=x∧Ls 3 h.length H x ((nR (aH t).net m a b k).map ak)) 0 (by omega)
     ⟨by simp,by simp,by simp,by simp,hBase2,_,by simp;rfl,by simpa [nR] using Ls.nil⟩ ?_
    rintro k fr H hk ⟨f49,f50,f51,f10,hBa,y,f11,hy⟩;have hyf:=hy.rs.fix;have hyl:=EJ (aH t).net m a b k;rcases zN k m.length with hlt | hge
    ·obtain⟨q,hq,hq'⟩:=aJ hlt;have ew:=aB (i:=k) (by omega);have hqd:m.getD k []=q:=by rw [List.getD_eq_getElem?_getD,hq];rfl
     have hsuc:=KT (aH t).net m a b k;rw [hqd,←hpath] at hsuc;have ht2:=htg (k+1) (by omega);have ht2':=(zA.1 ht2).2;have hkl:k+1<TL.length:=by omega
     have hlh:=bJ hBa;simp [-Int.natCast_add,-aj,-au,aO,oM,f49,f50,f51,f10,f11,hlt,hq,hq',ew,ht2,ht2',hkl,hyf];refine aN (lo:=h.length) (n:=3) (es:=(nR (aH t).net m a b k).map ak) (ys:=[ak ⟨q,dV (aH t).net path a.time b.time (k+1),[]⟩]) (by simpa [ak] using hy.more _) (by simp;omega) (by simp [bE,ak]) (by simp;omega) ?_;intro s1 H1 hs1 hg1 hn1;have hs1f:=hs1.rs.fix;have hB1:=hg1.base h (by omega) (aI hBa _);simp [-Int.natCast_add,-aj,-au,-ah,-AV.solid,f49,f50,f51,f10,hs1f,ew];exact⟨k+1,by omega,by omega,by omega,hB1,by rw [hsuc];simpa using hs1⟩
    ·obtain rfl:k=m.length:=by omega
     simp [f49,f50,f51,f10,f11,hyf];exact⟨hy,hBa⟩
   refine JI (fun F H=>F 3= .ptr h.length 0 0∧F 4= .ptr (h.length+1) 0 0∧F 5= .ptr (h.length+2) 0 0∧F 7= .ro (m.map aO)∧H.length=h.length+3∧H[h.length]? =some (.cells 3 [aA t])∧H[h.length+1]? =some (.cells 8 [ae a])∧H[h.length+2]? =some (.cells 8 [ae b])∧ ∃g,H=h++g) ⟨by simp,by simp,by simp,by simp,by simp,by simp,by simp,by simp,_,rfl⟩ ?_;rintro F H ⟨f3,f4,f5,f7,hlH,hT,hA,hB,hBase⟩;have hT3:=at3 hT;have hA3:=at3 hA;have hB3:=at3 hB;simp only [aA,dz] at hT3 hA3 hB3;rw [kg,kg,kg];have ep:path.map aO=[aO a.point]++m.map aO++[aO b.point]:=by rw [hpath];simp
   refine⟨⟨by decide+kernel,?_⟩,⟨by decide+kernel,?_⟩,⟨by decide+kernel,?_⟩,trivial⟩
   ·simp [-aj,-au,aR,ko,mI,uS,cK,Yb,f3,f4,f5,f7,hT3,hA3,hB3,hlH];refine aN (lo:=h.length+3) (n:=1) (es:=[aO a.point]) (ys:=m.map aO) (Ls.own (by simp [hlH,aO]) (by omega) rfl (by simp [aO])) (by simp;omega) (by simp [bE,aO]) (by simp;omega) ?_;intro s1 H1 hs1 hg1 hn1;have hs1f:=hs1.rs.fix;have hT1:=hg1.keep _ _ (aP hT _) fun off len e=>by simp at e
    have hA1:=hg1.keep _ _ (aP hA _) fun off len e=>by simp at e
    have hB1:=hg1.keep _ _ (aP hB _) fun off len e=>by simp at e
    have hBa:=hg1.base h (by omega) (aI hBase _);have hB13:=at3 hB1;simp only [dz] at hB13;have hl1:=bJ hBa;simp [-aj,-au,f3,f4,f5,f7,hs1f,hB13];refine aN (lo:=h.length+3) (n:=1) (es:=[aO a.point]++m.map aO) (ys:=[aO b.point]) (by simpa using hs1.more _) (by simp;omega) (by simp [bE,aO]) (by simp;omega) ?_;intro s2 H2 hs2 hg2 hn2;have hs2f:=hs2.rs.fix;have hne: ∀b,b<h.length+3→ ∀off len,s1≠ .own b off len:=fun b hb off len e=>by have:=hs1.above _ _ _ e;omega
    have hT2:=hg2.keep _ _ (aP hT1 _) (hne _ (by omega));have hA2:=hg2.keep _ _ (aP hA1 _) (hne _ (by omega));have hB2:=hg2.keep _ _ (aP hB1 _) (hne _ (by omega));have hBa2:=hg2.base h (by omega) (aI hBa _);simp [-aj,-au,f3,f4,f5,f7,hs2f,hB3];exact key _ _ s2 (by simp [f3]) (by simp [f4]) (by simp [f5]) (by simp [f7]) (by simp) (by rw [ep];exact hs2) hT2 hA2 hB2 hBa2
   ·simp [-aj,-au,aR,ko,mI,uS,cK,Yb,f3,f4,f5,f7,hT3,hA3,hB3,hlH];refine aN (lo:=h.length+3) (n:=1) (es:=[aO a.point]) (ys:=m.map aO) (Ls.own (by simp [hlH,aO]) (by omega) rfl (by simp [aO])) (by simp;omega) (by simp [bE,aO]) (by simp;omega) ?_;intro s1 H1 hs1 hg1 hn1;have hs1f:=hs1.rs.fix;have hne0: ∀b,b≠h.length+3→ ∀off len,AV.own (h.length+3) 0 1≠ .own b off len:=fun b hb off len e=>by injection e;omega
    have hT1:=hg1.keep _ _ (aP hT _) (hne0 _ (by omega));have hA1:=hg1.keep _ _ (aP hA _) (hne0 _ (by omega));have hB1:=hg1.keep _ _ (aP hB _) (hne0 _ (by omega));have hC1:=hg1.keep (h.length+4) (.cells 1 [[.str b.point]]) (by simp [hlH]) (hne0 _ (by omega));have hC13:=at3 hC1;have hBa:=hg1.base h (by omega) (aI hBase _);have hl1:=bJ hBa;simp [-aj,-au,f3,f4,f5,f7,hs1f];refine aN (lo:=h.length+3) (n:=1) (es:=[aO a.point]++m.map aO) (ys:=[aO b.point]) hs1 (by have:=hC13.2.1;omega) (by simp [bE,aO,hC13]) (by simp;omega) ?_;intro s2 H2 hs2 hg2 hn2;have hs2f:=hs2.rs.fix;have hne: ∀b,b<h.length+3→ ∀off len,s1≠ .own b off len:=fun b hb off len e=>by have:=hs1.above _ _ _ e;omega
    have hT2:=hg2.keep _ _ hT1 (hne _ (by omega));have hA2:=hg2.keep _ _ hA1 (hne _ (by omega));have hB2:=hg2.keep _ _ hB1 (hne _ (by omega));have hBa2:=hg2.base h (by omega) hBa;simp [-aj,-au,f3,f4,f5,f7,hs2f,hT3,hA3,hB3,hlH];exact key _ _ s2 (by simp [f3]) (by simp [f4]) (by simp [f5]) (by simp [f7]) (by simp) (by rw [ep];exact hs2) hT2 hA2 hB2 hBa2
   ·simp [-aj,-au,aR,ko,mI,uS,cK,Yb,f3,f4,f5,f7,hT3,hA3,hB3,hlH];refine aN (lo:=h.length+3) (n:=1) (es:=[aO a.point]) (ys:=m.map aO) (Ls.own (by simp [hlH,aO]) (by omega) rfl (by simp [aO])) (by simp;omega) (by simp [bE,aO]) (by simp;omega) ?_;intro s1 H1 hs1 hg1 hn1;have hs1f:=hs1.rs.fix;have hne0: ∀b,b≠h.length+3+1→ ∀off len,AV.own (h.length+3+1) 0 1≠ .own b off len:=fun b hb off len e=>by injection e;omega
    have hT1:=hg1.keep _ _ (aP hT _) (hne0 _ (by omega));have hA1:=hg1.keep _ _ (aP hA _) (hne0 _ (by omega));have hB1:=hg1.keep _ _ (aP hB _) (hne0 _ (by omega));have hC1:=hg1.keep (h.length+3) (.cells 1 [[.str b.point]]) (by simp [hlH]) (hne0 _ (by omega));have hC13:=at3 hC1;have hBa:=hg1.base h (by omega) (aI hBase _);have hl1:=bJ hBa;simp [-aj,-au,f3,f4,f5,f7,hs1f];refine aN (lo:=h.length+3) (n:=1) (es:=[aO a.point]++m.map aO) (ys:=[aO b.point]) hs1 (by have:=hC13.2.1;omega) (by simp [bE,aO,hC13]) (by simp;omega) ?_;intro s2 H2 hs2 hg2 hn2;have hs2f:=hs2.rs.fix;have hne: ∀b,b<h.length+3→ ∀off len,s1≠ .own b off len:=fun b hb off len e=>by have:=hs1.above _ _ _ e;omega
    have hT2:=hg2.keep _ _ hT1 (hne _ (by omega));have hA2:=hg2.keep _ _ hA1 (hne _ (by omega));have hB2:=hg2.keep _ _ hB1 (hne _ (by omega));have hBa2:=hg2.base h (by omega) hBa;simp [-aj,-au,f3,f4,f5,f7,hs2f,hT3,hA3,hB3,hlH];exact key _ _ s2 (by simp [f3]) (by simp [f4]) (by simp [f5]) (by simp [f7]) (by simp) (by rw [ep];exact hs2) hT2 hA2 hB2 hBa2
 ·obtain rfl:=hnz hE;simp [hE];exact Ls.nil
end Go.Proofs.YtkpioblbeiaefaaGreat
namespace Go.Proofs.YtkpioblbeiaefaaGreat
open Go Go.Abs Go.Toll
variable {gl : aM} {h : af}
def Mk (v:bn)(l:List ay):AV:= .tup [.ro ((iE v l).1.map ak),.int .i64 (iE v l).2]
theorem Ml (l:List aX): ∀e∈l.map ak,∀y∈e,y.Data:=by
 intro e he y hy;obtain⟨m,_,rfl⟩:=List.mem_map.1 he;simp [ak] at hy;rcases hy with rfl | rfl | rfl <;> simp
def Xj:Nat→Option (Nat×List (Nat×Nat)):=fun id=>if id=10 then some (7,[]) else none
set_option maxHeartbeats 4000000 in
theorem Ji (t:aY)(l:List ay)(hp:t.net.pts.length≤1000)(hl:t.net.lks.length≤1000)(hs:t.sys.length≤1000)(hn:l.length≤1000000):aa Tryz.prog gl 76 [.agg (aA t),.ro (l.map ae)] h fun x h'=>x=Mk (aH t).net l∧h'=h:=by
 refine aa.fresh' (aa.bodyM Xj Tryz.f76 _ mixed Tryz.func76 rfl rfl (by simp [Tryz.ntmps76]) ?_);unfold Mk iE;have hlim:ed (aH t).net l=0→l.length≤1024:=fun h=>by
  unfold ed at h;split at h
  ·cases h
  ·omega
 simp [Xj];refine ax.pure _ (fun _=>Jk t l hp hl hs hn) ?_;have ok:=SV t;have c2:=fun (H:af) (a b:ay)=>Eo (gl:=gl) (h:=H) t a b hp hl hs;by_cases hE:ed (aH t).net l=0
 ·have hl2:=hlim hE;simp [hE];refine aT.upM Xj mixed l.length (fun i fr H=>fr 1= .ro (l.map ae)∧fr 2= .ptr h.length 0 0∧fr 17= .ro (l.map ae)∧fr 18= .int .i64 l.length∧fr 19= .int .i64 i∧H[h.length]? =some (.cells 3 [aA t])∧(∃g,H=h++g)∧ ∃x,fr 7=x∧Ls 3 (h.length+1) H x ((dH (aH t).net l i).map ak)) 0 (by omega)
   ⟨by simp,by simp,by simp,by simp,by simp,by simp,⟨_,rfl⟩,_,by simp;rfl,by simpa [dH] using Ls.nil⟩ ?_
  rintro i fr H hi ⟨e1,e2,e17,e18,e19,hT,hB,x,e7,hx⟩;have hT3:=at3 hT;simp only [aA] at hT3;have hxf:=hx.rs.fix;have hlen:=hT3.2.1;have hsl:=wy ok (l:=l) i;rcases zN i l.length with hlt | hge
  ·obtain⟨p,hg,hg'⟩:=aJ hlt;have ew:=aB (i:=i) (by omega)
   cases i with
   | zero=>
    simp [Xj,-aj,-au,e1,e2,e7,e17,e18,e19,hlt,hg,hg',hT3,hxf];refine aN (lo:=h.length+1) (n:=3) (es:=([]:List aX).map ak) (ys:=[ak (ll p)]) (by simpa [ak] using Ls.nil) (by simp <;> omega) (by simp [bE,ak,ll]) (by simp <;> omega) ?_;intro s1 H1 hs1 hg1 hn1;have hs1f:=hs1.rs.fix;have hx1:=(hx.more _).grow hg1 (by simp);have hT1:=hg1.keep _ _ (aP hT _) (by simp);have hB1:=hg1.base h (by omega) (aI hB _);have hl1:=bJ hB1;have hl2:=aK hT1;simp [-aj,-au,-List.map_append,e1,e2,e7,e17,e18,e19,hs1f,hxf];refine ax.any (BZ hx1.rs hs1.rs (by simp <;> omega) (by simp <;> omega)) ?_;rintro v H2 ⟨rfl,rfl⟩;simp [-aj,-au,-List.map_append,e1,e2,e7,e17,e18,e19,ew];have e0:dH (aH t).net l 1=[ll p]:=zU hg;refine⟨1,by omega,by omega,by decide,?_,aI hB1 _,?_⟩
    ·rw [if_pos (by omega)];exact hT1
    rw [e0];exact Ls.own (by simp [dH]) (by omega) (by simp [dH]) (by simp)
   | succ j=>
    obtain⟨q,hq,hq'⟩:=aJ (l:=l) (i:=j) (by omega);have hj:j<l.length:=by omega
    have w1':IntKind.i64.wrap ((j:Int)+1 - 1)=(j:Int):=by rw [aC (by omega) (by omega)];omega
    have w0:IntKind.i64.wrap (j:Int)=(j:Int):=aC (by omega) (by omega);have w2:IntKind.i64.wrap ((j:Int)+1+1)=((j+1+1:Nat):Int):=by rw [aC (by omega) (by omega)];omega
    have hlt':(j:Int)+1<l.length:=by omega
    have hn0:(0:Int)≤(j:Int)+1:=by omega
    have ewz:IntKind.i64.wrap ((j:Int)+1)=(j:Int)+1:=aC (by omega) (by omega);simp [Xj,av,-aj,-au,e1,e2,e7,e17,e18,e19,hlt',hlt,hg,hg',hT3,hxf,hq,hq',hj,w1',w0,w2,hn0];refine⟨by decide,?_⟩;have c3:=c2 (H++[bY.cells 8 [ae p]]) q p;simp only [dz,aA] at c3;refine ax.any c3 ?_;rintro y H0 ⟨hy,g,hH0⟩;have hbl:=EK ok q p;have hyf:=hy.rs.fix;have hx0:Ls 3 (h.length+1) H0 x ((dH (aH t).net l (j+1)).map ak):=by rw [hH0,zK];exact hx.more _
    have hT0:H0[h.length]? =some (.cells 3 [aA t]):=by rw [hH0,zK];exact aP hT _
    have hP0:H0[H.length]? =some (.cells 8 [ae p]):=by rw [hH0];exact aP (by simp) _
    have hP3:=at3 hP0;simp only [dz] at hP3;have hB0: ∃g,H0=h++g:=by obtain⟨g',e⟩:=hB;exact⟨_,by rw [hH0,e,zK,zK]⟩
    have hlH:H.length<H0.length:=hP3.2.1;simp [-aj,-au,aA,e1,e2,e7,e17,e18,e19,hyf,hxf,hP3];refine aN (lo:=h.length+1) (n:=3) (es:=(l8 (aH t).net q p).map ak) (ys:=[ak (ll p)]) (by simpa [ak] using (jW hy (by simp <;> omega)).more _) (by simp <;> omega) (by simp [bE,ak,ll]) (by simp <;> omega) ?_;intro s1 H1 hs1 hg1 hn1;have hs1f:=hs1.rs.fix;have hx1:=(hx0.more _).grow hg1 (fun b e hb off len c=>by have h1:=hy.above _ _ _ c;have h2:=Xh hx e;simp at h1;omega);have hT1:=hg1.keep _ _ (aP hT0 _) (fun off len c=>by have h1:=hy.above _ _ _ c;simp at h1;omega);have hB1:=hg1.base h (by omega) (aI hB0 _);have hl1:=bJ hB1;have hl2:=aK hT1;simp [-aj,-au,-List.map_append,e1,e2,e7,e17,e18,e19,hs1f,hxf];refine ax.any (BZ hx1.rs hs1.rs (by simp <;> omega) (by simp <;> omega)) ?_;rintro v H2 ⟨rfl,rfl⟩;simp [-aj,-au,-List.map_append,e1,e2,e7,e17,e18,e19,ew];have e0:=zT (v:=(aH t).net) hq hg;refine⟨j+1+1,by omega,by omega,by omega,?_,aI hB1 _,?_⟩
    ·rw [if_pos (by omega)];exact hT1
    rw [e0];exact Ls.own (by simp) (by omega) (by simp) (fun e he=>by obtain⟨a,_,rfl⟩:=List.mem_map.1 he;rfl)
  ·obtain rfl:i=l.length:=by omega
   simp [e1,e2,e7,e17,e18,e19,hxf];exact⟨hB,.tup' (.cons (hx.frz (by omega) (Ml _)) (.cons (.data _ (by simp)) .nil))⟩
 ·simp [hE];exact fI
end Go.Proofs.YtkpioblbeiaefaaGreat
namespace Go.Proofs.YtkpioblbeiaefaaGreat
open Go Go.Abs Go.Toll
variable {gl : aM} {h : af}
theorem Ug (l:List aX): ∀e∈l.map ak,e.length=3:=by
 intro e he;obtain⟨a,_,rfl⟩:=List.mem_map.1 he;rfl
end Go.Proofs.YtkpioblbeiaefaaGreat
end
section
namespace Go.Proofs.YtkpioblbeiaefaaGreat
open Go Go.Abs Go.Toll
variable {gl : aM} {h : af}
def qz:Nat→Option rE:=fun id=>if id=8 then some (.last 13 [(4,9)]) else none
def Od (t:aY)(l:List ay)(i:Nat):bS:=⟨[],jc t (l.take i),[],[],[]⟩
set_option maxHeartbeats 8000000 in
theorem DT (t:aY)(l:List ay)(veh:Bytes)(hok: ∀p∈l,p.Ok∧p.sources.length≤1000)(hn:l.length≤50)(hid: ∀p∈l,p.id.length≤1000000)(hpt: ∀p∈t.net.pts,p.name.length≤1000000)(hp:t.net.pts.length≤1000)(hl:t.net.lks.length≤1000)(hs:t.sys.length≤1000):
  aa Tryz.prog gl 39 [.agg (aA t),.ro (l.map ae),.str veh] h fun v h'=> ∃x y,v= .tup [x,y]∧Ls 5 h.length h' x ((bI t l veh).trips.map aD)∧Ls 2 h.length h' y ((bI t l veh).out.map bf)∧ ∃g,h'=h++g:=by
 refine aa.bodyN qz Tryz.f39 _ mixed Tryz.func39 rfl rfl (by simp [Tryz.ntmps39]) ?_;simp [qz,-aS,aA];refine aT.upN qz mixed l.length (fun i fr H=>fr 1= .ro (l.map ae)∧fr 3= .ptr h.length 0 0∧fr 8= .ptr (h.length+2) 0 0∧fr 23= .ro (l.map ae)∧fr 24= .int .i64 l.length∧fr 25= .int .i64 i∧(∃g,H=(h++[.cells 3 [aA t]])++g)∧
   (∃ou,wJ t veh (h.length+1) (jL l i) (h.length+2) (h.length+1) H .nil ou .nil (Od t l i))∧ ∃x,fr 9=x∧Ls 8 (h.length+1) H x ((bC t (l.take i)).map ae)) 0 (by omega)
  ⟨by simp,by simp,by simp,by simp,by simp,by simp,⟨_,by simp [aA];rfl⟩,⟨.nil,by simp [iV,Od,jc],by simp [jL,sM],by simpa [Od] using Ls.nil,by simpa [Od,jc] using Ls.nil,by omega,by omega⟩,.nil,by simp,by simpa [bC] using Ls.nil⟩ ?_
 rintro i fr H hi ⟨e1,e3,e8,e23,e24,e25,⟨g,hH⟩,⟨ou,hW⟩,x,e9,hx⟩;have hxf:=hx.rs.fix;have hT:H[h.length]? =some (.cells 3 [aA t]):=by rw [hH];simp
 have hT3:=at3 hT;have hB3:=at3 hW.blk;have hM3:=at3 hW.mp;simp only [aA,iV] at hT3 hB3;rcases zN i l.length with hlt | hge
 ·obtain⟨p,hg,hg'⟩:=aJ hlt;have ew:=aB (i:=i) (by omega);have hW1:=hW.more [.cells 8 [ae p]];have hB4:=at3 hW1.blk;have hM4:=at3 hW1.mp;simp only [dz,iV] at hB4 hM4;have hko:=Js (m:=jL l i) p.id;have hset:=wM encZ' (jL l i) p.id p.cls;have hlH:h.length+1<H.length:=aK hW.mp;simp only [encZ'] at hset;simp [qz,av,-aj,-au,-ah,-AV.solid,-bg,e1,e3,e8,e9,e23,e24,e25,hlt,hg,hg',hT3,hB3,hM3,hB4,hM4,hxf,hko,hset];obtain⟨H1,hH1⟩: ∃H1:af,H1=H.set (h.length+1) (.map (sM encZ' (jL l (i+1))))++[.cells 8 [ae p]]:=⟨_,rfl⟩;have hW2:wJ t veh (h.length+1) (jL l (i+1)) (h.length+2) (h.length+1) H1 .nil ou .nil (Od t l i):=by rw [hH1];exact (hW.putM _).more _
  have hx2:Ls 8 (h.length+1) H1 x ((bC t (l.take i)).map ae):=by rw [hH1];exact (G6 hx (kT hx hW.mp) _).more _
  have hT2:H1[h.length]? =some (.cells 3 [aA t]):=by rw [hH1];refine aP ?_ _;rw [zJ (by omega)];exact hT
  have hP2:H1[H.length]? =some (.cells 8 [ae p]):=by rw [hH1,zD (by simp)];simp
  have hbase2: ∃g,H1=(h++[.cells 3 [aA t]])++g:=by rw [hH1];exact aI (dA ⟨g,hH⟩ (by simp) _) _
  have hH1':=hH1;rw [OB hg] at hH1';simp only [dz] at hH1';rw [←hH1'];refine⟨by decide,?_⟩;refine ax.pure _ (fun _=>by simpa [aA] using jg (gl:=gl) t p.point hp hl hs) ?_;have hT4:=at3 hT2;have hP4:=at3 hP2;have hB5:=at3 hW2.blk;simp only [aA,dz,iV] at hT4 hP4 hB5;have hL2:=aK hW2.blk;have huf:=hW2.out.rs.fix;have hft:=yl t (l.take i);have hkt:=nC t (l.take i);have htk:=List.length_take_le i l;by_cases hk:kindOf t p.point=0
  ·simp [qz,av,-aj,-au,-ah,-AV.solid,-bg,e1,e3,e8,e9,e23,e24,e25,hT4,hP4,hB5,hxf,huf,hk];refine⟨by decide,?_⟩;obtain⟨c3,hc3⟩: ∃c3:bY,c3= .cells 2 [[.str p.id,.int .i64 3]]:=⟨_,rfl⟩;have hap:bE Tryz.prog (H1++[c3]) [33,33] 2 (.own H1.length 0 1) [bf ⟨p.id,3⟩]:=by rw [hc3];simp [bE,bf]
   rw [←hc3];have hW3:=hW2.more [c3];have hx3:=hx2.more [c3];have hO3:Ls 2 (h.length+1) (H1++[c3]) ou ((jc t (l.take i)).map bf):=hW3.out;have hP3:=aP hP2 [c3];refine aN (lo:=h.length+1) (n:=2) (es:=(jc t (l.take i)).map bf) (ys:=[bf ⟨p.id,3⟩]) hO3 (by simp;omega) hap (by simp;omega) ?_;intro s1 H4 hs1 hg1 hn1;have hs1f:=hs1.rs.fix;have hb1:=hg1.keep _ _ hW3.blk (sS hO3 hW3.blk (by decide));have hm1:=hg1.keep _ _ hW3.mp (kT hO3 hW3.mp);have hx4:=gQ hx3 hO3 (by decide) hg1;have hb13:=at3 hb1;have hbq:=at3 hW3.blk;simp only [iV] at hb13 hbq;obtain⟨g5,hg5⟩:=dA (hg1.base (h++[.cells 3 [aA t]]) (by simp) (aI hbase2 [c3])) (b:=h.length+2) (by simp) (.cells 10 [iV t veh (h.length+1) .nil s1 .nil [] []]);have e4:jc t (l.take (i+1))=jc t (l.take i)++[⟨p.id,3⟩]:=by rw [BO hg,if_pos hk]
   have e5:bC t (l.take (i+1))=bC t (l.take i):=by rw [zn hg,if_pos hk]
   have hsx:Ls 2 (h.length+1) H4 s1 ((jc t (l.take (i+1))).map bf):=by rw [e4];simpa using hs1
   simp only [List.cons_append,List.nil_append,zK,aA,iV] at hg5;simp [qz,av,-aj,-au,-ah,-AV.solid,-bg,-List.map_take,e1,e3,e8,e9,e23,e24,e25,hs1f,hb13,hbq,Od,ew];refine⟨i+1,by omega,by omega,by omega,⟨g5,by simpa [Od] using hg5⟩,⟨s1,?_⟩,?_⟩
   ·refine⟨?_,get_put hb1 hm1 (nX hb1 hm1),Ls.nil,iT hsx hb1 (by decide) _,by omega,by omega⟩;rw [zI hb13.2.1];simp [iV,Od]
   ·rw [e5];exact iT hx4 hb1 (by decide) _
  ·simp [qz,av,-aj,-au,-ah,-AV.solid,-bg,e1,e3,e8,e9,e23,e24,e25,hT4,hP4,hB5,hxf,hk];have hW3:=hW2.more [.cells 8 [ae p]];have hx3:=hx2.more [.cells 8 [ae p]];refine aN (lo:=h.length+1) (n:=8) (es:=(bC t (l.take i)).map ae) (ys:=[ae p]) (by simpa using hx3) (by simp;omega) (by simp [bE]) (by simp;omega) ?_;intro s1 H4 hs1 hg1 hn1;have hg1:Grow (h.length+1) (H1++[.cells 8 [ae p]]) x H4:=by simpa using hg1
   have hs1f:=hs1.rs.fix;have hW4:=hW3.grow hx3 (by decide) hg1;obtain⟨g5,hg5⟩:=hg1.base (h++[.cells 3 [aA t]]) (by simp) (aI hbase2 _);simp only [List.cons_append,List.nil_append,zK,aA] at hg5;have e4:Od t l (i+1)=Od t l i:=by unfold Od;rw [BO hg,if_neg hk]
   have e5:bC t (l.take (i+1))=bC t (l.take i)++[p]:=by rw [zn hg,if_neg hk]
   simp [qz,av,-aj,-au,-ah,-AV.solid,-bg,-List.map_take,e1,e3,e8,e9,e23,e24,e25,hs1f,ew];exact⟨i+1,by omega,by omega,by omega,⟨g5,hg5⟩,⟨ou,by rw [e4];exact hW4⟩,by rw [e5];simpa using hs1⟩
 ·obtain rfl:i=l.length:=by omega
  rw [List.take_length] at hx;have e4:Od t l l.length=⟨[],jc t l,[],[],[]⟩:=by simp [Od]
  rw [e4] at hW;have hkl:=nC t l;obtain⟨ks,hkf,hkg,hkn⟩:=Go.Toll.Ls.lendG hx;have hW1:=hW.grow hx (by decide) hkg;have hsp:=IR (gl:=gl) (h:=killL H ks) t (bC t l) (fun p h=>hok p (Cc h)) (by omega) hp hl hs;have hsp1:aa Tryz.prog gl 75 [.agg (aA t),x] H fun v h'=>v=splitV (aH t).net (bC t l)∧h'=killL H ks:=aa.lend ks (.cons (.same _) (.cons hkf .nil)) hsp;simp [qz,av,-aj,-au,-ah,-AV.solid,-bg,e1,e3,e8,e9,e23,e24,e25,hT3,hB3,hxf];refine ax.any (by simpa [aA] using hsp1) ?_;rintro v h1 ⟨rfl,rfl⟩;have hT1:=hkg.keep _ _ hT (fun off len e=>by
   rcases hx.1 with⟨e1,_⟩ | ⟨b',e1,hl',hb'⟩
   ·rw [e1] at e;cases e
   ·rw [e1] at e;injection e with e2;omega)
  have hT4:=at3 hT1;have hB4:=at3 hW1.blk;have huf:=hW1.out.rs.fix;simp only [aA,iV] at hT4 hB4;have hft:=yl t l;have hspv:splitV (aH t).net (bC t l)= .tup [.ro ((jV (aH t).net (bC t l)).map ae),.ro ((bT (aH t).net (bC t l)).map bf)]:=rfl;have hB:bI t l veh=Ky t veh (rW (jL l l.length)) (bP t l (bT (aH t).net (bC t l))) (iE (aH t).net (jV (aH t).net (bC t l))).1:=rfl;have hOl:(bT (aH t).net (bC t l)).length≤50:=by have:=CB (Ib (aH t).net (bC t l)) (bC t l) (bC t l).length;show (lH _ _ _).length≤50;omega
  have hKl:(jV (aH t).net (bC t l)).length≤50:=by have:=xe (Ib (aH t).net (bC t l)) (bC t l) (bC t l).length;show (yn _ _ _).length≤50;omega
  have hKm: ∀p∈jV (aH t).net (bC t l),p.id.length≤1000000:=fun p hp=>hid p (Cc (ui hp));rw [hspv];rw [hB];clear hspv hB hsp hsp1;generalize bT (aH t).net (bC t l)=O at*;generalize jV (aH t).net (bC t l)=K at*;generalize killL H ks=H0 at*;simp [qz,av,-aj,-au,-ah,-AV.solid,-bg,e1,e3,e8,e9,e23,e24,e25,hT4,hB4,huf];refine aN (lo:=h.length+1) (n:=2) (es:=(jc t l).map bf) (ys:=O.map bf) hW1.out (by have:=aK hT1;omega) (jQ (Rs.ro (fun e he=>by obtain⟨y,_,rfl⟩:=List.mem_map.1 he;rfl)) (by simp) (by simp) (by simp)) (by simp;omega) ?_;intro s1 H4 hs1 hg1 hn1;have hO3:Ls 2 (h.length+1) H0 ou ((jc t l).map bf):=hW1.out;have hs1f:=hs1.rs.fix;have hb1:=hg1.keep _ _ hW1.blk (sS hO3 hW1.blk (by decide));have hm1:=hg1.keep _ _ hW1.mp (kT hO3 hW1.mp);have hT5:=hg1.keep _ _ hT1 (sS hO3 hT1 (by decide));have hb13:=at3 hb1;simp only [iV] at hb13;have hbase3: ∃g,H0=(h++[.cells 3 [aA t]])++g:=hkg.base (h++[.cells 3 [aA t]]) (by simp) ⟨g,hH⟩;have hbase4:=hg1.base (h++[.cells 3 [aA t]]) (by simp) hbase3;obtain⟨H5,hH5⟩: ∃H5:af,H5=H4.set (h.length+2) (.cells 10 [iV t veh (h.length+1) .nil s1 .nil [] []]):=⟨_,rfl⟩;have hW5:wJ t veh (h.length+1) (jL l l.length) (h.length+2) (h.length+1) H5 .nil s1 .nil (bP t l O):=by
   rw [hH5];refine⟨zI hb13.2.1,get_put hb1 hm1 (nX hb1 hm1),Ls.nil,?_,by omega,by omega⟩;have:Ls 2 (h.length+1) H4 s1 ((jc t l++O).map bf):=by simpa using hs1
   exact iT this hb1 (by decide) _
  have hT6:H5[h.length]? =some (.cells 3 [aA t]):=by rw [hH5];exact get_put hb1 hT5 (by omega)
  have hbase5: ∃g,H5=(h++[.cells 3 [aA t]])++g:=by rw [hH5];exact dA hbase4 (by simp) _
  have hT7:=at3 hT6;have hT8:=at3 hT5;have hB6:=at3 hW5.blk;simp only [iV] at hH5 hB6;simp only [aA] at hT7 hT8;simp [qz,av,-aj,-au,-ah,-AV.solid,-bg,e1,e3,e8,e9,e23,e24,e25,hs1f,hb13,hT8];rw [←hH5];refine ax.pure _ (fun _=>by simpa [aA] using Ji t K hp hl hs (by omega)) ?_;obtain⟨hS1,hS2⟩:=wz (SV t) (l:=K);have hSe:(iE (aH t).net K).2≠0→(iE (aH t).net K).1=[]:=RB;unfold Mk;generalize (iE (aH t).net K).1=S at*;generalize (iE (aH t).net K).2=E at*;have hvl:=jC t;have hSp: ∀s∈S,((0≤s.time∧s.time<68719476736)∧s.point.length≤1000000)∧s.pass.length≤1000000:=fun s hs=>by
   have h1:=hS1 s hs;refine⟨⟨h1.time,?_⟩,?_⟩
   ·have h2:=(ym _ _).1 h1.point;obtain⟨q,hq,e⟩:=List.mem_map.1 h2;rw [←e];exact hpt q (MH hq)
   ·rcases h1.pass with e | ⟨q,hq,e⟩
    ·rw [e];simp
    ·rw [e];exact hKm q hq
  have hN0:Ul 0 S (bP t l O):=⟨by simp [bP],by simp [bP];omega,by simp [bP],by simp [bP],by simp [bP],by simp [bP]⟩;by_cases hE:E=0
  ·simp [qz,av,-aj,-au,-ah,-AV.solid,-bg,e1,e3,e8,e9,e23,e24,e25,hs1f,hE];refine aT.upN qz mixed S.length (fun j fr H=>fr 3= .ptr h.length 0 0∧fr 8= .ptr (h.length+2) 0 0∧fr 82= .ro (S.map ak)∧fr 83= .int .i64 S.length∧fr 84= .int .i64 j∧(∃g,H=(h++[.cells 3 [aA t]])++g)∧
     ∃tr ou op,wJ t veh (h.length+1) (jL l l.length) (h.length+2) (h.length+1) H tr ou op ((S.take j).foldl (bV t veh (rW (jL l l.length))) (bP t l O))∧Ls 3 (h.length+1) H op (((S.take j).foldl (bV t veh (rW (jL l l.length))) (bP t l O)).opn.map ak)) 0 (by omega)
    ⟨by simp [e3],by simp [e8],by simp,by simp,by simp,hbase5,.nil,s1,.nil,by simpa using hW5,by simpa [bP] using Ls.nil⟩ ?_
   clear hH5 hH hT hT1 hT3 hT4 hT5 hT6 hT7 hT8 hB3 hM3 hB4 hB6 hb1 hb13 hbase3 hbase4 hs1 hg1 hs1f hW hW1 hx hxf e1 e9 e23 e24 e25 hm1 hO3 hkf hkg hkn;rintro j fr H hj ⟨e3,e8,e82,e83,e84,hB,tr,ou,op,hW,hop⟩;have hNj:=Kz hN0 (fun s hs=>(hSp s hs).2) j hj (t:=t) (veh:=veh) (cls:=rW (jL l l.length));generalize hw:(S.take j).foldl (bV t veh (rW (jL l l.length))) (bP t l O)=w at*;have hWB:YD w:=⟨by have:=hNj.trips;omega,by have:=hNj.out;omega,by have:=hNj.opn;omega,hNj.before,hNj.last,fun x hx=>(hSp x (hNj.all x hx)).1⟩;rcases zN j S.length with hlt | hge
   ·obtain⟨s,hs',hs''⟩:=aJ hlt;have ew:=aB (i:=j) (by omega);have hW1:=hW.more [.cells 3 [ak s]];have hop1:=hop.more [.cells 3 [ak s]];have hst:=Py (gl:=gl) s hW1 hop1 hWB (hSp s (zF hs')).1 hp hl hs;simp [qz,av,-aj,-au,-ah,-AV.solid,-bg,e3,e8,e82,e83,e84,hlt,hs',hs'',ak];refine ax.any (by simpa [ak] using hst) ?_;rintro v H1 ⟨rfl,⟨tr',ou',op',hW2,hop2⟩,hbs⟩;obtain⟨g,hg⟩:=hB;obtain⟨g1,hg1⟩:=hbs (h++[.cells 3 [aA t]]) (by simp) (g++[.cells 3 [ak s]]) (by rw [hg];simp [ak]);have hfs:(S.take (j+1)).foldl (bV t veh (rW (jL l l.length))) (bP t l O)=bV t veh (rW (jL l l.length)) w s:=by rw [K9 hs',hw]
    simp [qz,av,-aj,-au,-ah,-AV.solid,-bg,-List.map_take,e3,e8,e82,e83,e84,ew];refine⟨j+1,by omega,by omega,by omega,⟨g1,by simpa using hg1⟩,tr',ou',op',?_⟩;rw [hfs];exact⟨hW2,hop2⟩
   ·obtain rfl:j=S.length:=by omega
    rw [List.take_length] at hw;simp [qz,av,-aj,-au,-ah,-AV.solid,-bg,e3,e8,e82,e83,e84];refine ax.any (uE hW hop (by have:=hWB.opn;omega) (by have:=hWB.out;omega)) ?_;rintro v H6 ⟨rfl,⟨ou',hW6⟩,hK6⟩;obtain⟨g6,hg6⟩:=hK6.base (h++[.cells 3 [aA t]]) (by simp) hB;have hB7:=at3 hW6.blk;have hu7:=hW6.out.rs.fix;have ht7:=hW6.trips.rs.fix;simp only [iV] at hB7;simp [qz,av,-aj,-au,-ah,-AV.solid,-bg,e3,e8,e82,e83,e84,hB7,hu7,ht7];refine⟨by decide,tr,ou',⟨rfl,rfl⟩,?_,?_,⟨_,by rw [hg6,zK]⟩⟩
    ·unfold Ky;rw [hw];exact jW hW6.trips (by omega)
    ·unfold Ky;rw [hw];exact jW hW6.out (by omega)
  ·obtain rfl:=hSe hE;simp [qz,av,-aj,-au,-ah,-AV.solid,-bg,e1,e3,e8,e9,e23,e24,e25,hs1f,hE];refine ax.any (uE hW5 (op:= .nil) (by simpa [bP] using Ls.nil) (by simp [bP]) (by simp [bP];omega)) ?_;rintro v H6 ⟨rfl,⟨ou',hW6⟩,hK6⟩;have hbase6:=hK6.base (h++[.cells 3 [aA t]]) (by simp) hbase5;have hB7:=at3 hW6.blk;have hu7:=hW6.out.rs.fix;have ht7:=hW6.trips.rs.fix;simp only [iV] at hB7;simp [qz,av,-aj,-au,-ah,-AV.solid,-bg,e1,e3,e8,e9,e23,e24,e25,hs1f,hE,hB7,hu7,ht7];obtain⟨g6,hg6⟩:=hbase6;exact⟨by decide,.nil,ou',⟨rfl,rfl⟩,jW hW6.trips (by omega),jW hW6.out (by omega),⟨_,by rw [hg6,zK]⟩⟩
end Go.Proofs.YtkpioblbeiaefaaGreat
end
