/- Merged by program. -/
import Derived.Test.YtbihggbffaigjaaGreatDoorZp8
import Derived.LaidLaws
import Derived.MakeChecks
import Derived.Handed
set_option linter.all false
set_option maxRecDepth 1000000
set_option maxHeartbeats 16000000
namespace Go.Proofs.YtbihggbffaigjaaGreatDoor
open Go Go.RowKit
variable {B K L a b bc bg bn cc cn fuel gb gc i j k mb root rr t tO tb tc:Nat}{C O_ S' X Y' Z':Nat->Prop}{G T:GwP}{GS TS vo vs:Value}{P:Program}{Q:UB}{W w w' w1 w2:World}{cl':Bool}{cs:List Value}{g:List (List Nat)}{la:Option Addr}{ls:List (Int×Int×Int×Int)}{s s' s0:DmS}{tx:Sa}{txt txt':Int->Sa}{vb:Nat->Nat}
def LkZ (s:DmS):Prop:=∀v,s.num.getD v 0=4294967295->s.looked.getD v 0=0
section
variable {u v n:Nat}
theorem Zk {l:List Nat}{x d:Nat}(hi:i<l.length):(l.set i x).getD j d=if j=i then x else l.getD j d:=by
 rw[y0C,y0C]
 by_cases e:j=i
 ·subst e;rw[if_pos O,y0X hi];rfl
 ·rw[if_neg e,y0M (λh=>e h.symm)]
def zeP {l:List Nat}(h:l.getD u 0=0):l.set u 0=l:=by
 refine y1f λx=>?_
 by_cases e:u=x
 ·subst e;by_cases c:u<l.length
  ·rw[y0X c,y04 c];rw[y0C,y04 c] at h;exact congrArg some h.symm
  ·rw[y0n (by rw[y0w];omega),y0n ω]
 ·rw[y0M e]
theorem LkZ.push (h:LkZ s)(f:u<s.num.length)(d:u<s.looked.length):LkZ (s.push u):=λv l=>by
 have c:(s.num.set u 4294967294).getD v 0=4294967295:=l
 show(s.looked.set u 0).getD v 0=0
 rw[Zk f] at c
 rw[Zk d]
 by_cases e:v=u
 ·rw[if_pos e]
 ·rw[if_neg e] at c⊢;exact h v c
def LkZ.look (h:LkZ s)(l:s.num.getD v 0≠4294967295)(f:v<s.looked.length):LkZ (s.look v):=λx d=>by
 show(s.looked.set v _).getD x 0=0
 rw[Zk f,if_neg (λe=>l (by have c:s.num.getD x 0=4294967295:=d;rw[e] at c;exact c))]
 exact h x d
def LkZ.Z0 (h:LkZ s)(m:s.num.getD v 0≠4294967295)(f:v<s.num.length)(d:s.fin≠4294967295):LkZ (s.Z0 v):=λx l=>by
 have c:(s.num.set v s.fin).getD x 0=4294967295:=l
 rw[Zk f] at c
 by_cases e:x=v
 ·rw[if_pos e] at c;exact absurd c d
 ·rw[if_neg e] at c;exact h x c
theorem LkZ.new (hr:root<n):LkZ (DmS.new n root):=by
 have c:LkZ ⟨0,0,0,false,false,List.replicate n 4294967295,List.replicate n 0,List.replicate n 4294967295,List.replicate n 0,List.replicate n 0⟩:=λv _=>by
  show(List.replicate n 0).getD v 0=0;rw[y0C,y0Z];split<;>rfl
 exact c.push (by show root<(List.replicate n _).length;rw[y0b];exact hr) (by show root<(List.replicate n _).length;rw[y0b];exact hr)
theorem LkZ.move (h:LkZ s)(c:Zb g root s)(hg:Um g)(o:0<s.Sj):LkZ (s.move g):=by
 obtain⟨l,d⟩:=c.st (s.Sj-1) ω
 have r:=c.nn
 have y:=c.ln
 have m:=c.fh
 have p:=hg.n
 unfold DmS.move
 generalize s.Wv.getD (s.Sj-1) 0=v at l d⊢
 split
 ·exact h.Z0 (by rw[d];decide) ω ω
 ·rename_i u f
  have q:u<g.length:=Vx hg v u (y0i f);have e:=h.look (v:=v) (by rw[d];decide) ω;split
  ·exact e.push (by show u<s.num.length;omega) (by show u<(s.looked.set v _).length;rw[y0w];omega)
  ·exact e
end
def RdX (B:Nat)(GS TS:Value)(n root mb:Nat)(s:DmS)(cl:Bool)(Z:Nat->Prop)(w:World):Prop:=∃(bn cn bl bc cc:Nat)(vs vo:Value),RdS B GS TS n root mb bn cn bl bc cc vs vo s cl w/\Z mb/\Z bn/\Z bl/\Z bc/\(∀b,vs.ownBlock=some b->Z b)/\∀b,vo.ownBlock=some b->Z b
section
variable {n bl:Nat}{cl:Bool}{Z:Nat->Prop}{v x:Nat}
def RdS.kp (h:RdS B GS TS n root mb bn cn bl bc cc vs vo s cl w)(d:Kp S' w w')(r:¬S' mb/\¬S' bn/\¬S' bl/\¬S' bc/\(∀b,vs.ownBlock=some b->¬S' b)/\∀b,vo.ownBlock=some b->¬S' b):RdS B GS TS n root mb bn cn bl bc cc vs vo s cl w':=by
 obtain⟨e,f,m,o,p,q⟩:=r
 obtain⟨A,z⟩:=h.nu
 obtain⟨rc,y⟩:=h.c
 exact⟨d.S4 h.run e,⟨A,d.S4 z f⟩,d.S4 h.l m,⟨rc,d.S4 y o⟩,h.st.kp d p,h.od.kp d q,h.ln,h.ap,h.sa,h.oa,h.lo⟩
theorem RdX.kp (h:RdX B GS TS n root mb s cl Z w)(q:Kp S' w w')(c:∀b,Z b->¬S' b):RdX B GS TS n root mb s cl Z w':=by
 obtain⟨bn,cn,bl,bc,cc,vs,vo,h,d,f,l,m,o,p⟩:=h
 exact⟨bn,cn,bl,bc,cc,vs,vo,h.kp q ⟨c _ d,c _ f,c _ l,c _ m,λb e=>c _ (o b e),λb e=>c _ (p b e)⟩,d,f,l,m,o,p⟩
theorem RdX.ext (h:RdX B GS TS n root mb s cl Z w)(c:Ext w w'):RdX B GS TS n root mb s cl Z w':=h.kp (S':=λ_=>False) c (λ_ _=>id)
def RdS.cNu (h:RdS B GS TS n root mb bn cn bl bc cc vs vo s cl w)(c:s.num[v]? =some x):w.cell? ⟨bn,0+v*1,none⟩=some (I (rN x)):=by
 obtain⟨r,hr⟩:=h.nu
 have d:v<s.num.length:=by
  rcases y0a v s.num.length with h| h
  ·exact h
  ·rw[y0n h] at c;cases c
 rw[hr.cell,y0g,y0j,y0I (by rw[y0h];exact d),y0l,c];rfl
def RdS.cCa (h:RdS B GS TS n root mb bn cn bl bc cc vs vo s cl w)(d:s.cand[v]? =some x):w.cell? ⟨bc,0+v*1,none⟩=some (I (rC x)):=by
 obtain⟨r,hr⟩:=h.c
 have e:v<s.cand.length:=by
  rcases y0a v s.cand.length with h| h
  ·exact h
  ·rw[y0n h] at d;cases d
 rw[hr.cell,y0g,y0j,y0I (by rw[y0h];exact e),y0l,d];rfl
def RdS.cLk (h:RdS B GS TS n root mb bn cn bl bc cc vs vo s cl w)(c:s.looked[v]? =some x):w.cell? ⟨bl,0+v*1,none⟩=some (I (x:Int)):=by
 rw[h.l.cell,y0g,y0j,y0l,c];rfl
def RdS.znV (h:RdS B GS TS n root mb bn cn bl bc cc vs vo s cl w){rest:List Value}(hi:i<s.num.length)(d:Kp (λb=>b=bn) w w')(hB:Sk w' bn ((s.num.map (λx=>I (rN x))++rest).set (0+i*1) (I (rN x))) 3):RdS B GS TS n root mb bn cn bl bc cc vs vo {s with num:=s.num.set i x} cl w':=by
 obtain⟨m,a2,r,o,p,y⟩:=h.ap
 obtain⟨rc,q⟩:=h.c
 rw[y0g,y0j,y3r _ _ (by rw[y0h];exact hi)] at hB
 refine⟨d.S4 h.run m,⟨rest,?_⟩,d.S4 h.l (λe=>o e.symm),⟨rc,d.S4 q (λe=>p e.symm)⟩,h.st.kp d (λb f=>(h.sa b f).2.2.1),h.od.kp d (λb f=>(h.oa b f).2.2.1),⟨by show(s.num.set i x).length=n;rw[y0w];exact h.ln.1,h.ln.2⟩,h.ap,h.sa,h.oa,h.lo⟩
 show Sk w' bn ((s.num.set i x).map _++rest) _
 rw[y1V]
 exact hB
def RdS.zl3 (h:RdS B GS TS n root mb bn cn bl bc cc vs vo s cl w){rest:List Value}(hi:i<s.cand.length)(c:Kp (λb=>b=bc) w w')(hB:Sk w' bc ((s.cand.map (λx=>I (rC x))++rest).set (0+i*1) (I (rC x))) 3):RdS B GS TS n root mb bn cn bl bc cc vs vo {s with cand:=s.cand.set i x} cl w':=by
 obtain⟨q,a2,e,r,f,m⟩:=h.ap
 obtain⟨p,o⟩:=h.nu
 rw[y0g,y0j,y3r _ _ (by rw[y0h];exact hi)] at hB
 refine⟨c.S4 h.run e,⟨p,c.S4 o f⟩,c.S4 h.l m,⟨rest,?_⟩,h.st.kp c (λb d=>(h.sa b d).2.2.2.2.1),h.od.kp c (λb d=>(h.oa b d).2.2.2.2),⟨h.ln.1,h.ln.2.1,by show(s.cand.set i x).length=n;rw[y0w];exact h.ln.2.2⟩,h.ap,h.sa,h.oa,h.lo⟩
 show Sk w' bc ((s.cand.set i x).map _++rest) _
 rw[y1V]
 exact hB
def RdS.zp2 (h:RdS B GS TS n root mb bn cn bl bc cc vs vo s cl w)(d:Kp (λb=>b=bl) w w')(hB:Sk w' bl ((s.looked.map λx:Nat=>I (x:Int)).set (0+i*1) (I (x:Int))) 3):RdS B GS TS n root mb bn cn bl bc cc vs vo {s with looked:=s.looked.set i x} cl w':=by
 obtain⟨r,a2,y,l,z,m⟩:=h.ap
 obtain⟨q,p⟩:=h.nu
 obtain⟨rc,o⟩:=h.c
 rw[y0g,y0j] at hB
 refine⟨d.S4 h.run a2,⟨q,d.S4 p l⟩,?_,⟨rc,d.S4 o (λe=>m e.symm)⟩,h.st.kp d (λb f=>(h.sa b f).2.2.2.1),h.od.kp d (λb f=>(h.oa b f).2.2.2.1),⟨h.ln.1,by show(s.looked.set i x).length=n;rw[y0w];exact h.ln.2.1,h.ln.2.2⟩,h.ap,h.sa,h.oa,h.lo⟩
 show Sk w' bl ((s.looked.set i x).map _) _
 rw[y1V]
 exact hB
end
def Sl.head {g n cap m:Nat}{e:TypeId}(h:Sl w (.slice (some ⟨g,0,none⟩) n cap) e 1 n cs)(r:m<=n):Sl w (.slice (some ⟨g,0,none⟩) m cap) e 1 m (cs.take m):=by
 obtain⟨d,f,q,l,o,p⟩:=h.row
 have c:=f.sl (n:=m) ω l o
 rw[<-p,y1n,y0A ω]
 rw[y0j] at c
 exact c
open Go.Proofs.Tryz
section
variable {n bl:Nat}{vs' vo':Value}{cl:Bool}{Z:Nat->Prop}{x:Nat}
theorem RdX.more (h:RdX B GS TS n root mb s cl Z w)(c:∀b,Z b->Z' b):RdX B GS TS n root mb s cl Z' w:=by
 obtain⟨bn,cn,bl,bc,cc,vs,vo,h,d,f,l,m,o,p⟩:=h
 exact⟨bn,cn,bl,bc,cc,vs,vo,h,c _ d,c _ f,c _ l,c _ m,λb e=>c _ (o b e),λb e=>c _ (p b e)⟩
def RdS.lts (h:RdS B GS TS n root mb bn cn bl bc cc vs vo s cl w):mb<w.heap.size/\bn<w.heap.size/\bl<w.heap.size/\bc<w.heap.size/\(∀b,vs.ownBlock=some b->b<w.heap.size)/\∀b,vo.ownBlock=some b->b<w.heap.size:=by
 obtain⟨m,f⟩:=h.nu
 obtain⟨rc,e⟩:=h.c
 exact⟨h.run.lt,f.lt,h.l.lt,e.lt,λb d=>h.st.lt d,λb d=>h.od.lt d⟩
theorem RdS.zjD (h:RdS B GS TS n root mb bn cn bl bc cc vs vo s cl w)(o:Kp (λb=>b=mb\/vs.ownBlock=some b) w w')(hr:Sk w' mb [GS,TS,I (root:Int),.slice (some ⟨bn,0,none⟩) n cn,.slice (some ⟨bl,0,none⟩) n n,vs',vo,.slice (some ⟨bc,0,none⟩) n cc,I (s'.steps:Int),.bool (!s'.T5),.bool s'.done,.bool cl'] 71)(H:Sl w' vs' 3 1 s'.Sj ((s'.Wv.take s'.Sj).map λx:Nat=>I (x:Int)))(M:s'.num=s.num/\s'.looked=s.looked/\s'.cand=s.cand/\s'.ord=s.ord/\s'.fin=s.fin)(N:∀b,vs'.ownBlock=some b->vs.ownBlock=some b\/w.heap.size<=b)(hB:B<=w.heap.size):RdS B GS TS n root mb bn cn bl bc cc vs' vo s' cl' w':=by
 obtain⟨y,a2,z,V,Y,a⟩:=h.ap
 obtain⟨g,i,j,k,t,S⟩:=h.lts
 obtain⟨U,R⟩:=h.nu
 obtain⟨rc,J⟩:=h.c
 obtain⟨r,f,u,A,D⟩:=M
 have p:∀{b},b≠mb->(∀q,vs.ownBlock=some q->q≠b)->¬(b=mb\/vs.ownBlock=some b):=λE F e=>e.elim E λe=>F _ e O
 refine⟨hr,⟨U,?_⟩,?_,⟨rc,?_⟩,H,?_,?_,h.ap,λb m=>?_,h.oa,h.lo⟩
 ·rw[r];exact o.S4 R (p y.symm λq d=>(h.sa q d).2.2.1)
 ·rw[f];exact o.S4 h.l (p a2.symm λq d=>(h.sa q d).2.2.2.1)
 ·rw[u];exact o.S4 J (p z.symm λq d=>(h.sa q d).2.2.2.2.1)
 ·rw[A,D];exact h.od.kp o (λb m e=>e.elim (h.oa b m).2.1 λe=>(h.sa b e).2.2.2.2.2 m)
 ·rw[r,f,u];exact h.ln
 ·rcases N b m with e| e
  ·exact h.sa b e
  ·exact⟨ω,ω,ω,ω,ω,λf=>by have:=S b f;omega⟩
theorem RdS.zoc (h:RdS B GS TS n root mb bn cn bl bc cc vs vo s cl w)(m:Kp (λb=>b=mb\/vo.ownBlock=some b) w w')(hr:Sk w' mb [GS,TS,I (root:Int),.slice (some ⟨bn,0,none⟩) n cn,.slice (some ⟨bl,0,none⟩) n n,vs,vo',.slice (some ⟨bc,0,none⟩) n cc,I (s'.steps:Int),.bool (!s'.T5),.bool s'.done,.bool cl'] 71)(J:Sl w' vo' 3 1 s'.fin ((s'.ord.take s'.fin).map λx:Nat=>I (x:Int)))(N:s'.num=s.num/\s'.looked=s.looked/\s'.cand=s.cand/\s'.Wv=s.Wv/\s'.Sj=s.Sj)(y:∀b,vo'.ownBlock=some b->vo.ownBlock=some b\/w.heap.size<=b)(hB:B<=w.heap.size):RdS B GS TS n root mb bn cn bl bc cc vs vo' s' cl' w':=by
 obtain⟨z,a2,A,k,t,C⟩:=h.ap
 obtain⟨G,K,L,P,S,Q⟩:=h.lts
 obtain⟨j,R⟩:=h.nu
 obtain⟨rc,M⟩:=h.c
 obtain⟨p,r,u,D,E⟩:=N
 have o:∀{b},b≠mb->(∀q,vo.ownBlock=some q->q≠b)->¬(b=mb\/vo.ownBlock=some b):=λF H e=>e.elim F λe=>H _ e O
 refine⟨hr,⟨j,?_⟩,?_,⟨rc,?_⟩,?_,J,?_,h.ap,λb d=>?_,λb d=>?_,h.lo⟩
 ·rw[p];exact m.S4 R (o z.symm λq f=>(h.oa q f).2.2.1)
 ·rw[r];exact m.S4 h.l (o a2.symm λq f=>(h.oa q f).2.2.2.1)
 ·rw[u];exact m.S4 M (o A.symm λq f=>(h.oa q f).2.2.2.2)
 ·rw[D,E];exact h.st.kp m (λb d e=>e.elim (h.sa b d).2.1 λe=>(h.sa b d).2.2.2.2.2 e)
 ·rw[p,r,u];exact h.ln
 ·obtain⟨U,V,Y,a,g,i⟩:=h.sa b d;refine⟨U,V,Y,a,g,λe=>?_⟩;rcases y b e with e| e
  ·exact i e
  ·have:=S b d;omega
 ·rcases y b d with e| e
  ·exact h.oa b e
  ·exact⟨ω,ω,ω,ω,ω⟩
end
theorem z1o {l:List Nat}{x:Nat}(hi:i<l.length):(l.set i x).take (i+1)=l.take i++[x]:=by
 have h:(l.set i x)[i]? =some x:=y0X hi
 rw[Tj h,List.take_set_of_le (y07 _)]
def GrK (C:Nat->Prop)(w1:World)(gb go:Nat)(g:List (List Nat)):Prop:=∀(v:Nat)(l:List Nat),g[v]? =some l->∃(a:Option Addr)(c:Nat),(∀{w':World},Kp C w1 w'->w'.cell? ⟨gb,go+v*1,none⟩=some (.slice a l.length c))/\∀(i x:Nat),l[i]? =some x->∃d lo,a=some ⟨d,lo,none⟩/\∀{w':World},Kp C w1 w'->w'.cell? ⟨d,lo+i*1,none⟩=some (SV x)
section
variable {go:Nat}{cl:Bool}{Z:Nat->Prop}
theorem zbd (aq:Um g)(tD:GrK C w1 gb go g)(aa:Kp C w1 w)(h:RdX w1.heap.size (.slice (some ⟨gb,go,none⟩) g.length gc) TS g.length root mb s cl Z w)(E:Zb g root s)(hz:LkZ s)(hh:0<s.Sj):SG prog 90 [ptr mb 0] w λ_ w'=>RdX w1.heap.size (.slice (some ⟨gb,go,none⟩) g.length gc) TS g.length root mb (s.move g) cl (λb=>Z b\/(w.heap.size<=b/\b<w'.heap.size)) w'/\Kp Z w w':=by
 obtain⟨bn,cn,bl,bc,cc,vs,vo,h,Y,z2,z3,z4,z5,z6⟩:=h
 have hn:=aq.n
 have fI:maxLen=9223372036854775807:=rfl
 have oD:=E.nn
 have uA:=E.ln
 have jE:=E.sn
 have uz:=E.on
 have Ji:=E.fh
 have ab:=aa.size
 obtain⟨a1,a2,a3,a4,a5,a6⟩:=h.ap
 obtain⟨sb,sc,rfl,RV⟩:∃b c,vs= .slice (some ⟨b,0,none⟩) s.Sj c/\s.Sj<=c:=by
  rcases h.st.shape with⟨-,e⟩|⟨b,c,e,r⟩
  ·omega
  ·exact⟨b,c,e,r⟩
 obtain⟨oa,oc,rfl⟩:∃a c,vo= .slice a s.fin c:=by
  rcases h.od.shape with⟨e1,r⟩|⟨b,c,e,-⟩
  ·exact⟨none,0,by rw[e1,r]⟩
  ·exact⟨_,c,e⟩
 have JT:=h.sa sb O
 obtain⟨v,hv⟩:∃v,s.Wv[s.Sj-1]? =some v:=⟨_,y04 ω⟩
 have qr:s.Wv.getD (s.Sj-1) 0=v:=Wy hv
 obtain⟨v1,v2⟩:=E.st (s.Sj-1) ω
 rw[qr] at v1 v2
 obtain⟨k,hk⟩:∃k,s.looked[v]? =some k:=⟨_,y04 ω⟩
 have bX:s.looked.getD v 0=k:=Wy hk
 have zo:=(E.lk v v1 ω).1
 rw[bX] at zo
 have mh:s.move g=match(Si g v)[k]? with
  |none=>s.Z0 v
  |some u=>if s.num.getD u 0=4294967295 then(s.look v).push u else s.look v:=by
  unfold DmS.move;rw[qr,bX]
  try (cases (Si g v)[k]?<;>rfl)
 rw[mh]
 have iB:w.cell? ⟨sb,0+(s.Sj-1)*1,none⟩=some (I (v:Int)):=TF h.st.rd (by rw[y0l,y2R ω,hv];rfl)
 have eA:g[v]? =some (Si g v):=by unfold Si;rw[y04 v1];rfl
 obtain⟨ra,rc,eJ,ff⟩:=tD v _ eA
 have ic:(Si g v).length<=g.length:=aq.len (y0i eA)
 have f:=Ext.Sv w
 have o:=Ext.Sv w.drew
 have H:Ext w w.drew.drew:=f.trans o
 have f9:=Ext.Sv w.drew.drew
 have X:Ext w w.drew.drew.drew:=H.trans f9
 have A:=h.run
 refine py (e:=[(0,_)]) func90 O ntmps90 O O<|It<|Ux (λw'=>Ext w w') O<|St 0 O O f<|S8 1 O (Tu O) f<|S8 2 O (SN Z6 O) f<|qT 3 O (λ_ h=>Sc Tx O O (h.S4 A) O) f<|St 4 O O f<|S8 5 O (Tu O) f<|S8 6 O (SN Z6 O) f<|qT 7 O (λ_ h=>Sc Tx O O (h.S4 A) O) f<|S8 8 O (VQ Tx O) f<|S8 9 O (ysb O O ω) f ?_
 rw[show(s.Sj:Int)-1=((s.Sj-1:Nat):Int) by omega]
 refine S8 10 O (Tm Tx T8 O O ω) f<|qT 11 O (λ_ h=>SQ U3 O O (Ts h iB)) f<|S8 12 O (UU O) f<|qE<|It<|It<|Ux (λw'=>Ext w.drew w') O<|St 0 O O o<|S8 1 O (Tu O) o<|S8 2 O (SN zbu O) o<|qT 3 O (λ_ h=>Sc Tx O O (h.S4 (f.S4 A)) O) o<|St 4 O O o<|S8 5 O (Tm Tx T8 O O ω) o<|St 7 O O o ?_
 refine S8 8 O (Tu O) o<|S8 9 O (SN zbw O) o<|qT 10 O (λ_ h=>Sc Xw O O (h.S4 (f.S4 A)) O) o<|St 11 O O o<|S8 12 O (Tm Xw VR O O ω) o<|qT 6 O (λ_ z=>SQ U3 O O (Ts (f.trans z) (h.cLk hk))) o<|qT 13 O (λ_ z=>SQ SR O O (eJ ((aa.trans f.kp).trans z.kp))) o<|S8 14 O (VQ SR O) o ?_
 by_cases kQ:k<(Si g v).length
 ·obtain⟨u,P⟩:∃u,(Si g v)[k]? =some u:=⟨_,y04 kQ⟩;have kU:u<g.length:=Vx aq v u (y0i P);obtain⟨lb,lo,rfl,tA⟩:=ff k u P;obtain⟨x,hx⟩:∃x,s.num[u]? =some x:=⟨_,y04 ω⟩;have gp:s.num.getD u 0=x:=Wy hx;rw[P];dsimp only;rw[gp]
  have qo:s.look v={s with looked:=s.looked.set v (k+1)}:=by
   unfold DmS.look;rw[bX]
  rw[qo];refine S8 15 O (ylt O O) o<|Xl<|qE<|SI.qb (e:=[(0,_),(2,_),(31,_)]) ?_;refine Sb O (It (Ux (λw'=>Ext w.drew.drew w') O (St 0 O O f9 (S8 1 O (Tu O) f9 (S8 2 O (SN zbw O) f9 (qT 3 O (λ_ h=>Sc Xw O O (h.S4 (H.S4 A)) O) f9 (St 4 O O f9 (S8 5 O (Tm Xw VR O O ω) f9 (St 7 O O f9 (S8 8 O (Tu O) f9 (S8 9 O (SN zbu O) f9 (qT 10 O (λ_ h=>Sc Tx O O (h.S4 (H.S4 A)) O) f9 (St 11 O O f9 ?_)))))))))))));refine S8 12 O (Tm Tx T8 O O ω) f9 (qT 6 O (λ_ z=>SQ SR O O (eJ ((aa.trans H.kp).trans z.kp))) f9 (qT 13 O (λ_ z=>SQ U3 O O (Ts (H.trans z) (h.cLk hk))) f9 (S8 14 O (Tm SR Sy O O ω) f9 (qT 15 O (λ_ z=>SQ U0 O O (tA ((aa.trans H.kp).trans z.kp))) f9 (S8 16 O (T7 O U0 U3 ω) f9 (S8 17 O (UU O) f9 (qE (SE O (SC O (Sn zbu O ?_))))))))));have V:=h.kp (S':=λ_=>False) X.kp ⟨id,id,id,id,λ_ _=>id,λ_ _=>id⟩;have Dh:=V.run;refine qV (Sc Tx O O Dh O) (Sf O (qV (Tm Tx T8 O O ω) (qV (SQ U3 O O (V.cLk hk)) (Tr O (qV (Tm Tx T8 O O ω) ?_)))));rw[show(k:Int)+1=((k+1:Nat):Int) by omega];refine Sm O (TO T8 O O O V.l (by rw[y0h];omega)) ?_;rintro w4⟨aG,t⟩;have y:=V.zp2 (i:=v) (x:=k+1) t aG;have B:Kp (λb=>b=bl) w w4:=X.kp.trans t;have R:=y.run;refine S5<|SI.qb (e:=[(0,_),(2,_),(3,_)]) ?_;refine SX O (SC O (Sn z0f O (qV (Sc Tx O O R O) (Sf O (qV (Tm Tx T8 O O ω) (qV (SQ U3 O O (y.cNu hx)) ?_))))));by_cases S:x=4294967295
  ·rw[if_pos S];have EI:rN x=-1:=if_pos S;rw[EI];have Qm:s.looked.getD u 0=0:=hz u (by rw[gp];exact S);have L5:u≠v:=λe=>by rw[e,v2] at gp;omega
   have JU:(s.looked.set v (k+1)).getD u 0=0:=by rw[Zk ω,if_neg L5];exact Qm
   have oC:s.fin+s.Sj<g.length:=by
    have h1:=E.ct;have h2:Z5 g.length (λv=>s.num.getD v 0≠4294967295)<Z5 g.length (λ_=>True):=z2d (λ_ _ _=>trivial) kU (λh=>h (by rw[gp];exact S)) trivial;have h3:Z5 g.length (λ_=>True)<=g.length:=z4F;omega
   obtain⟨a9,oe⟩:=y.nu;refine U7 O (Ue (S5 (Sb O (SE O (SC O (Sn z0f O (qV (Sc Tx O O R O) (Sf O (qV (Tm Tx T8 O O ω) (Sm O (TO T8 O O O oe (by rw[y01,y0h];show 0+u*1<s.num.length+_;omega)) ?_))))))))));rintro w5⟨aF,ai⟩;have h5:=y.znV (i:=u) (x:=4294967294) (by show u<s.num.length;omega) ai aF;have cE:Kp (λb=>b=bl\/b=bn) w w5:=(B.Se λb e=> .inl e).trans (ai.Se λb e=> .inr e);have Qn:=cE.size;have qw:=h5.run;refine S5 (Sg O (Sz O (SC O (Sn Z6 O (qV (Sc Tx O O qw O) (Sf O (Sd O O (pbs (cs:=[_]) (zs:=[Value.int .i64 0]) Tx T8 O y00 O O O ψ) ?_)))))));rintro _ w6⟨b6,rfl,⟨oo,q,aW⟩,iN⟩;have a0:=q.size;refine Sd O O (pap Tx T8 O ψ O O (h5.st.ext q) iN.rd (by intro c L;simp at L;subst L;rfl) (by show(s.Sj+1)*8<=_;omega) (by show s.Sj+1<=_;omega)) ?_;rintro F w7⟨G,J,Q,-⟩;have qx:=J.S4 (q.S4 qw) (λe=>JT.2.1 (UC e));have a7:=J.size;refine SC O (Sn Z6 O (Sm O (TO ZA O O (Wz G) qx ξ) ?_));rintro N⟨aZ,j⟩;have yp:Kp (λb=>b=mb\/(Value.slice (some ⟨sb,0,none⟩) s.Sj sc).ownBlock=some b) w5 N:=(q.kp.trans (J.Se λb e=> .inr e)).trans (j.Se λb e=> .inl e);have T:∀b,F.ownBlock=some b->(Value.slice (some ⟨sb,0,none⟩) s.Sj sc).ownBlock=some b\/w5.heap.size<=b:=λb d=>(Q b d).imp id λe=>ω
   have yr:∀b,F.ownBlock=some b->b≠mb:=λb d e=>by
    rcases Q b d with r|r
    ·exact JT.2.1 ((UC r).trans e)
    ·have:=qw.lt;omega
   have JV:((({s with looked:=s.looked.set v (k+1)}:DmS).push u).Wv.take (s.Sj+1)).map (λx:Nat=>I (x:Int))=(s.Wv.take s.Sj).map (λx:Nat=>I (x:Int))++[I (u:Int)]:=by
    show((s.Wv.set s.Sj u).take (s.Sj+1)).map _=_;rw[z1o ω,y0f];rfl
   have U:=h5.zjD (s':=({s with looked:=s.looked.set v (k+1)}:DmS).push u) (cl':=cl) yp aZ (by
    have D:=G.kp j (λb d e=>yr b d e);have K:Sl N F 3 1 (s.Sj+1) ((s.Wv.take s.Sj).map (λx:Nat=>I (x:Int))++[I (u:Int)]):=D;rw[<-JV] at K
    exact K) ⟨O,zeP JU,O,O,O⟩ T ω
   have Qo:=yp.size;refine S5<|SI.qb (e:=[(0,_),(2,_)]) ?_;refine S3 func90 O (⟨_,O,⟨bn,cn,bl,bc,cc,F,_,U,.inl Y,.inl z2,.inl z3,.inl z4,λb d=>?_,λb d=> .inl (z6 b d)⟩,?_⟩)
   ·rcases T b d with e| e
    ·exact .inl (z5 b e)
    ·exact .inr ⟨ω,U.st.lt d⟩
   ·refine(cE.Se λb e=>?_).trans (yp.Se λb e=>?_)
    ·rcases e with e| e
     ·rw[e];exact z3
     ·rw[e];exact z2
    ·rcases e with e| e
     ·rw[e];exact Y
     ·exact z5 b e
  ·rw[if_neg S]
   have EI:rN x≠-1:=by
    unfold rN;rw[if_neg S];split<;>omega
   refine U7 O<|T0<|Tt O<|S3 func90 O ?_;exact⟨_,O,⟨bn,cn,bl,bc,cc,_,_,y,.inl Y,.inl z2,.inl z3,.inl z4,λb d=> .inl (z5 b d),λb d=> .inl (z6 b d)⟩,B.Se λb e=>by rw[e];exact z3⟩
 ·have P:(Si g v)[k]? =none:=y0n ω;rw[P];dsimp only;refine S8 15 O (ylt O O) o<|WW<|qE<|SI.qb (e:=[(0,_),(2,_),(31,_)]) ?_;refine VP O (It (Sx [11] (λw'=>Ext w.drew.drew w') y00 O ?_));obtain⟨a8,JW⟩:=h.nu;refine Te 0 O O f9 (SB 1 O (Tu O) f9 (SB 2 O (SN z0f O) f9 (qL 3 O (λ_ h=>Sc Tx O O (h.S4 (H.S4 A)) O) f9 (Te 4 O O f9 (Te 5 O O f9 (SB 6 O (Tu O) f9 (SB 7 O (SN z55 O) f9 (qL 8 O (λ_ h=>Sc Tx O O (h.S4 (H.S4 A)) O) f9 (SB 9 O (VQ Tx O) f9 (SB 10 O (Tm Tx T8 O O ω) f9 (Wg [11] (qO 11 (SY (i:=11) O O (TO T8 O O O (X.S4 JW) (by rw[y01,y0h];show 0+v*1<s.num.length+_;omega)) ?_)))))))))))));rintro w4⟨aG,t⟩;refine⟨trivial,?_⟩;have V:=h.kp (S':=λ_=>False) X.kp ⟨id,id,id,id,λ_ _=>id,λ_ _=>id⟩
  have iM:rN s.fin=(s.fin:Int):=by
   unfold rN;rw[if_neg ω,if_neg ω]
  have y:=V.znV (i:=v) (x:=s.fin) ω t (by rw[iM];exact aG);have B:Kp (λb=>b=bn) w w4:=X.kp.trans t;have Qp:=B.size;have R:=y.run;refine qE (TV O (SC O (Sn z55 O (qV (Sc Tx O O R O) (Sf O (Sd O O (pbs (cs:=[_]) (zs:=[Value.int .i64 0]) Tx T8 O y00 O O O ψ) ?_))))));rintro _ w6⟨b6,rfl,⟨oo,q,aW⟩,iN⟩;have a0:=q.size;refine Sd O O (pap Tx T8 O ψ O O (y.od.ext q) iN.rd (by intro c L;simp at L;subst L;rfl) (by show(s.fin+1)*8<=_;omega) (by show s.fin+1<=_;omega)) ?_;rintro F w7⟨G,J,Q,-⟩;have a7:=J.size;have qx:=J.S4 (q.S4 R) (λe=>(h.oa mb e).2.1 O);refine SC O (Sn z55 O (Sm O (TO ZA O O (Wz G) qx ξ) ?_));rintro N⟨aZ,j⟩;have yt:Kp (λb=>b=mb\/(Value.slice oa s.fin oc).ownBlock=some b) w4 N:=(q.kp.trans (J.Se λb e=> .inr e)).trans (j.Se λb e=> .inl e);have T:∀b,F.ownBlock=some b->(Value.slice oa s.fin oc).ownBlock=some b\/w4.heap.size<=b:=λb d=>(Q b d).imp id λe=>ω
  have yr:∀b,F.ownBlock=some b->b≠mb:=λb d e=>by
   rcases Q b d with r|r
   ·exact(h.oa b r).2.1 e
   ·have:=R.lt;omega
  obtain⟨W,M⟩:∃W:DmS,({s with num:=s.num.set v s.fin,ord:=s.ord.set s.fin v,fin:=s.fin+1}:DmS)=W:=⟨_,O⟩
  have JX:(W.ord.take W.fin).map (λx:Nat=>I (x:Int))=(s.ord.take s.fin).map (λx:Nat=>I (x:Int))++[I (v:Int)]:=by
   rw[<-M];show((s.ord.set s.fin v).take (s.fin+1)).map _=_;rw[z1o ω,y0f];rfl
  have U:=y.zoc (s':=W) (cl':=cl) yt (by rw[<-M];exact aZ) (by
   have D:=G.kp j (λb d e=>yr b d e);rw[JX,<-M]
   exact D) (by rw[<-M];exact⟨O,O,O,O,O⟩) T ω
  have Qq:=yt.size;have qy:=U.run;have p:=Ext.Sv N;refine S5 (Sx [14] (λw'=>Ext N w') y00 O (Te 0 O O p (Te 1 O O p (SB 2 O (Tu O) p (SB 3 O (SN Z6 O) p (qL 4 O (λ_ h=>Sc Tx O O (h.S4 qy) O) p (Te 5 O O p (SB 6 O (Tu O) p (SB 7 O (SN Z6 O) p (qL 8 O (λ_ h=>Sc Tx O O (h.S4 qy) O) p (SB 9 O (VQ Tx O) p (SB 10 O (ysb O O ω) p ?_))))))))))));rw[show(s.Sj:Int)-1=((s.Sj-1:Nat):Int) by omega];refine SB 11 O (zcq Tx T8 O O ω) p (SB 12 O (Tu O) p (SB 13 O (SN Z6 O) p (Wg [14] (qO 14 (SY (i:=14) O O (TO ZA O O O (p.S4 qy) ξ) ?_)))));rintro w9⟨cI,aK⟩;refine⟨trivial,?_⟩;have ky:Kp (λb=>b=mb) N w9:=p.kp.trans aK
  have JY:Sl w9 (.slice (some ⟨sb,0,none⟩) (s.Sj-1) sc) 3 1 (s.Sj-1) ((s.Wv.take (s.Sj-1)).map λx:Nat=>I (x:Int)):=by
   have D:Sl w9 (.slice (some ⟨sb,0,none⟩) s.Sj sc) 3 1 s.Sj ((s.Wv.take s.Sj).map λx:Nat=>I (x:Int)):=by
    have K:=U.st.kp ky (λb d e=>JT.2.1 ((UC d).trans e));rw[<-M] at K;exact K
   have mX:=D.head (m:=s.Sj-1) ω;rw[<-y1g,y1n,y0A ω] at mX;exact mX
  have D:=U.zjD (s':=s.Z0 v) (cl':=cl) (ky.Se λb e=> .inl e) (by rw[<-M] at cI;exact cI) JY (by rw[<-M];exact⟨O,O,O,O,O⟩) (λb d=> .inl d) ω;have Qr:=ky.size;refine qE<|SI.qb (e:=[]) ?_;refine Tv func90 O (⟨_,O,⟨bn,cn,bl,bc,cc,_,F,D,.inl Y,.inl z2,.inl z3,.inl z4,λb d=> .inl (z5 b d),λb d=>?_⟩,?_⟩)
  ·rcases T b d with e| e
   ·exact .inl (z6 b e)
   ·exact .inr ⟨ω,D.od.lt d⟩
  ·refine((B.Se λb e=>?_).trans (yt.Se λb e=>?_)).trans (ky.Se λb e=>by rw[e];exact Y)
   ·rw[e];exact z2
   ·rcases e with e| e
    ·rw[e];exact Y
    ·exact z6 b e
end
theorem XW {x:Nat}(h:x≠4294967295):rC x=(x:Int):=if_neg h
theorem zgF:rC 4294967295=-1:=rfl
def zjm {x y:Nat}(h:rC x=rC y):x=y:=by
 unfold rC at h
 split at h<;>split at h<;>omega
theorem zg0 {x:Nat}(h:x<4294967294):rN x=(x:Int):=by
 unfold rN
 rw[if_neg ω,if_neg ω]
section
variable {p q c:Nat}{cl:Bool}{Z:Nat->Prop}{par:Nat->Nat}
theorem zac (H:Um g)(h:RdX B GS TS g.length root mb s cl Z w)(hN:zhq (Y0 g root) (nF s.num) root)(D:Fo (Y0 g root) (nF s.num) root (VO s.cand))(hr:root<g.length)(X:nF s.num root<g.length)(f:VO s.cand p≠4294967295)(l:VO s.cand q≠4294967295)(d:meetF (nF s.num) (VO s.cand) k p q=some c):SG prog 123 [ptr mb 0,I (p:Int),I (q:Int)] w λr w'=>r=I (c:Int)/\Ext w w':=by
 have L:=H.n
 obtain⟨bn,cn,bl,bc,cc,vs,vo,h,-⟩:=h
 obtain⟨T,-,W⟩:=h.ln
 refine py (e:=[(0,_),(1,_),(2,_)]) func123 O ntmps123 O O<|TU O<|TZ<|UW (α:=Nat×Nat×Nat) (k,p,q) (λy=>[(0,ptr mb 0),(1,I (y.2.1:Int)),(2,I (y.2.2:Int))]) (λy w'=>meetF (nF s.num) (VO s.cand) y.1 y.2.1 y.2.2=some c/\VO s.cand y.2.1≠4294967295/\VO s.cand y.2.2≠4294967295/\Ext w w') (λy=>y.1) ?hI ?hround
 case hI=>exact⟨d,f,l,Ext.refl _⟩
 case hround=>
  rintro⟨k,p,q⟩ w2 ⟨d,f,l,F⟩ J;dsimp only at d f l J⊢
  try dsimp only
  refine It<|TV O ?_;by_cases e:p=q
  ·subst e
   have j:p=c:=by
    cases k with
    |zero=>unfold meetF at d;rw[if_pos O] at d;exact UC d
    |succ k=>unfold meetF at d;rw[if_pos O] at d;exact UC d
   subst j;refine TK O<|T0<|S5<|S9 O<|Sh O<|SE O<|Sq O<|S3 func123 O ?_;exact⟨_,O,O,F⟩
  ·obtain⟨k',rfl⟩:∃k',k=k'+1:=by
    cases k with
    |zero=>unfold meetF at d;rw[if_neg e] at d;cases d
    |succ k=>exact⟨k,O⟩
   unfold meetF at d;rw[if_neg e] at d;have M:=D.in_ p f;have N:=D.in_ q l;have P:=M.lt H hr;have Q:=N.lt H hr;obtain⟨x,Y⟩:∃x,s.num[p]? =some x:=⟨_,y04 ω⟩;obtain⟨y,a⟩:∃y,s.num[q]? =some y:=⟨_,y04 ω⟩;obtain⟨x2,b⟩:∃x,s.cand[p]? =some x:=⟨_,y04 ω⟩;obtain⟨R,S⟩:∃x,s.cand[q]? =some x:=⟨_,y04 ω⟩;have ex:nF s.num p=x:=Wy Y;have V:nF s.num q=y:=Wy a;have ex2:VO s.cand p=x2:=by show s.cand.getD p 4294967295=x2;rw[y0C,b];rfl
   have m:VO s.cand q=R:=by show s.cand.getD q 4294967295=R;rw[y0C,S];rfl
   have G:=hN.top p M;have K:=hN.top q N;have o:=hN.inj p q M N;have u:=D.up p f;have v:=D.up q l;rw[ex,V,ex2,m] at d;rw[ex] at G o u;rw[V] at K o v;rw[ex2] at u f;rw[m] at v l;have z:=h.kp (S':=λ_=>False) F.kp ⟨id,id,id,id,λ_ _=>id,λ_ _=>id⟩;have hg:=Ext.Sv w2;have E:=F.trans hg;have A:=h.kp (S':=λ_=>False) E.kp ⟨id,id,id,id,λ_ _=>id,λ_ _=>id⟩;refine TK O (Ue (S5 (Sb O (S6 (S7 (It (Ux (λw'=>Ext w2 w') O (St 0 O O hg (S8 1 O (Tu O) hg (S8 2 O (SN z0f O) hg (qT 3 O (λ_ h=>Sc Tx O O (h.S4 z.run) O) hg (St 4 O O hg (S8 5 O (Tm Tx T8 O O ω) hg ?_)))))))))))));refine St 7 O O hg (S8 8 O (Tu O) hg (S8 9 O (SN z0f O) hg (qT 10 O (λ_ h=>Sc Tx O O (h.S4 z.run) O) hg (St 11 O O hg (S8 12 O (Tm Tx T8 O O ω) hg (qT 6 O (λ_ h=>SQ U3 O O (Ts h (z.cNu Y))) hg (qT 13 O (λ_ h=>SQ U3 O O (Ts h (z.cNu a))) hg ?_)))))));rw[zg0 (x:=x) ω,zg0 (x:=y) ω];by_cases U:x<y
   ·rw[if_pos U] at d;have t:p≠root:=λe=>by subst e;omega
    refine S8 14 O (ylt O O) hg (Xl (qE (Sb O (Uw O (SC O (Sn Z7 O (qV (Sc Tx O O A.run O) (Sf O (qV (Tm Tx T8 O O ω) (qV (SQ U3 O O (A.cCa b)) ?_))))))))));rw[XW f];refine Sq O<|S2 ?_;exact(J (k',x2,q) _ ⟨d,(u t).1,by rw[m];exact l,E⟩ (by show k'<k'+1;omega)).qb
   ·rw[if_neg U] at d
    have C:q≠root:=λi=>by
     subst i;exact e (o ω)
    refine S8 14 O (ylt O O) hg (WW (qE (S9 O (Uw O (SC O (Sn Z7 O (qV (Sc Tx O O A.run O) (Sf O (qV (Tm Tx T8 O O ω) (qV (SQ U3 O O (A.cCa S)) ?_))))))))));rw[XW l];refine Sq O<|S2 ?_;exact(J (k',p,R) _ ⟨d,by rw[ex2];exact f,(v C).1,E⟩ (by show k'<k'+1;omega)).qb
theorem z8R (A:Um g)(yu:GrK C w1 tb tO (Tb g))(aa:Kp C w1 w)(Qs:∀b,Z b->C b)(h:RdX w1.heap.size GS (.slice (some ⟨tb,tO,none⟩) g.length tc) g.length root mb s cl Z w)(N:TrF g root (nF s.num) par)(L:Fnd g root s.num s.ord s.fin)(K:DwI g root s.num par s.cand j)(hr:root<g.length)(uz:s.ord.length=g.length):SG prog 89 [ptr mb 0] w λr w'=>r= .bool (Z8 (Tb g) g.length s.num s.ord (s.fin-1) (s.cand,false)).2/\RdX w1.heap.size GS (.slice (some ⟨tb,tO,none⟩) g.length tc) g.length root mb {s with cand:=(Z8 (Tb g) g.length s.num s.ord (s.fin-1) (s.cand,false)).1} cl Z w'/\Kp Z w w':=by
 have hn:=A.n
 have tI:=z2n A
 have jQ:=TQ g
 have kZ:∀u v,u∈Si (Tb g) v↔v∈Si g u:=λu v=>z30 A
 have ov:=L.t
 have PY:=L.f
 have yb:nF s.num root<g.length:=ω
 obtain⟨bn,cn,bl,bc,cc,vs,vo,h,z1,z2,z3,z4,z5,z6⟩:=h
 obtain⟨oD,uA,E⟩:=h.ln
 obtain⟨ob,oc,rfl⟩:∃b c,vo= .slice (some ⟨b,0,none⟩) s.fin c:=by
  rcases h.od.shape with⟨-,e⟩|⟨b,c,e,-⟩
  ·omega
  ·exact⟨b,c,e⟩
 have bK:=h.run
 refine py (e:=[(0,_)]) func89 O ntmps89 O O<|qN O<|Up O<|Sq O<|SX O<|SC O<|Sn z55 O<|qV (Sc Tx O O bK O)<|UR Tx O<|UO O<|Sq O<|S7 ?_
 rw[show(s.fin:Int)-2=((s.fin-1:Nat):Int)-1 by omega]
 obtain⟨D,CU⟩:∃D,Z8 (Tb g) g.length s.num s.ord (s.fin-1) (s.cand,false)=D:=⟨_,O⟩
 rw[CU]
 refine UW (α:=Nat×(List Nat×Bool)) (s.fin-1,(s.cand,false)) (λy=>[(0,ptr mb 0),(3,.bool y.2.2),(4,I ((y.1:Int)-1))]) (λy w'=>y.1<=s.fin-1/\Z8 (Tb g) g.length s.num s.ord y.1 y.2=D/\DwK g root s.num par y.2.1 j y.1/\RdS w1.heap.size GS (.slice (some ⟨tb,tO,none⟩) g.length tc) g.length root mb bn cn bl bc cc vs (.slice (some ⟨ob,0,none⟩) s.fin oc) {s with cand:=y.2.1} cl w'/\Kp (λb=>b=bc) w w') (λy=>y.1) ?hI ?hround
 case hI=>exact⟨y07 _,CU,⟨K.n,by
   have:=DsK.begin N K.i K.p;rw[show s.fin-1=nF s.num root by omega]
   exact this,K.c⟩,h,Kp.refl _ _⟩
 case hround =>
  rintro⟨m,p⟩ w2 ⟨hm,W,z,U,Y⟩ ih;dsimp only at hm W z U ih⊢;have X:Kp C w1 w2:=aa.trans (Y.Se λb e=>by rw[e];exact Qs _ z4)
  try dsimp only
  refine SX O ?_;rcases y0D m with uR|uR
  ·subst uR;refine WZ O<|T0<|S5<|S9 O<|Sh O<|SE O<|Sq O<|S3 func89 O ?_;rw[show Z8 (Tb g) g.length s.num s.ord 0 p=p from rfl] at W;subst W;exact⟨_,O,O,⟨bn,cn,bl,bc,cc,vs,_,U,z1,z2,z3,z4,z5,z6⟩,Y.Se λb e=>by rw[e];exact z4⟩
  ·obtain⟨k,rfl⟩:∃k,m=k+1:=⟨m-1,ω⟩;rw[show((k+1:Nat):Int)-1=(k:Int) by omega];refine WZ O<|Ue ?_;obtain⟨fJ,gY⟩:=L.d k ω;obtain⟨v,hv⟩:∃v,s.ord[k]? =some v:=⟨_,y04 ω⟩;have qr:s.ord.getD k 0=v:=Wy hv;obtain⟨cand,J⟩:=p;have gj:=DwK.one (b:=J) A N L kZ (k:=k) ω z hr
   have R:dsV (Tb g) g.length s.num s.ord (cand,J) k=if VO cand v=dsC (Tb g) g.length s.num cand v then(cand,J) else(cand.set v (dsC (Tb g) g.length s.num cand v),true):=by
    unfold dsV;rw[qr]
   rw[qr] at fJ gY;have gz:v<g.length:=fJ.lt A hr;have Q:Z8 (Tb g) g.length s.num s.ord k (dsV (Tb g) g.length s.num s.ord (cand,J) k)=D:=W;obtain⟨d1,d2,d3⟩:=gj;have xZ:=z.n;dsimp only at xZ;have df:=λps=>FdI.pre (n:=g.length) N z.k.i yb ps
   have Qt:w2.cell? ⟨ob,0+k*1,none⟩=some (I (v:Int)):=TF U.od.rd (by
    show((s.ord.take s.fin).map _)[k]? =_
    rw[y0l,y2R ω,hv];rfl)
   have eA:(Tb g)[v]? =some (Si (Tb g) v):=by unfold Si;rw[y04 ω];rfl
   obtain⟨ra,rc,eJ,ff⟩:=yu v _ eA;have qz:=U.run;refine S5 (Sb O (S6 (TZ (SE O (SC O (Sn z55 O (qV (Sc Tx O O qz O) (Sf O (qV (Tm Tx T8 O O ω) (qV (SQ U3 O O Qt) (Up O (Sq O (It ?_)))))))))))));refine TU O<|S7<|UW (α:=Nat) (0) (λi=>[(0,ptr mb 0),(3,.bool J),(4,I (k:Int)),(5,I (v:Int)),(6,I (rC (((Si (Tb g) v).take i).foldl (meS g.length s.num cand) 4294967295))),(7,I (i:Int))]) (λi w'=>i<=(Si (Tb g) v).length/\Ext w2 w') (λi=>(Si (Tb g) v).length-i) ?hI ?hround
   case hI=>exact⟨y02 _,Ext.refl _⟩
   case hround =>
    rintro i w3⟨hi,l⟩ H;have F:=U.kp (S':=λ_=>False) l.kp ⟨id,id,id,id,λ_ _=>id,λ_ _=>id⟩;have S:=F.run;have K0:(Si (Tb g) v).length<=60:=Zv tI v
    try dsimp only
    refine It<|TV O<|SC O<|Sn zeN O<|qV (Sc Xw O O S O)<|Sf O<|qV (Tm Xw VR O O ω)<|qV (SQ SR O O (eJ (X.trans l.kp)))<|UR SR O<|TW O<|S5<|So O (λh0=>?_)<|λh0=>?_
    ·obtain⟨u,hu⟩:∃u,(Si (Tb g) v)[i]? =some u:=⟨_,y04 ω⟩;obtain⟨lb,lo,rfl,tA⟩:=ff i u hu;have kU:u<g.length:=by have:=Vx tI v u (y0i hu);omega
     obtain⟨x,V⟩:∃x,cand[u]? =some x:=⟨_,y04 ω⟩;have B:VO cand u=x:=by show cand.getD u 4294967295=x;rw[y0C,V];rfl
     have o:((Si (Tb g) v).take (i+1)).foldl (meS g.length s.num cand) 4294967295=meS g.length s.num cand (((Si (Tb g) v).take i).foldl (meS g.length s.num cand) 4294967295) u:=by
      rw[Tj hu,y2Y];rfl
     have P:=df ((Si (Tb g) v).take i);obtain⟨c,hc⟩:∃c,((Si (Tb g) v).take i).foldl (meS g.length s.num cand) 4294967295=c:=⟨_,O⟩;rw[hc] at P o⊢;refine S6 (TZ (SE O (SC O (Sn zeN O (qV (Sc Xw O O S O) (Sf O (qV (Tm Xw VR O O ω) (qV (SQ SR O O (eJ (X.trans l.kp))) (Sf O (qV (Tm SR Sy O O ω) (qV (SQ U0 O O (tA (X.trans l.kp))) (qV (T7 O U0 U3 ω) (Sq O ?_)))))))))))));refine SX O (SC O (Sn Z7 O (qV (Sc Tx O O S O) (Sf O (qV (Tm Tx T8 O O ω) (qV (SQ U3 O O (F.cCa V)) ?_))))));by_cases a:x=4294967295
     ·rw[z8a (by rw[B];exact a)] at o;have EI:rC x=-1:=by rw[a];rfl
      rw[EI];refine TW O (Ue (S5 (Sb O (Sh O (Uw O (Tr O (Sq O ((H (i+1) _ ⟨ω,l⟩ ω).sub ?_))))))));rw[o];exact(by repeat (first|exact Sub.nil|refine Sub.cons O ?_))
     ·have T:VO cand u≠4294967295:=by rw[B];exact a
      rw[XW a];refine TW O<|T0<|Tt O<|SE O ?_;by_cases E:c=4294967295
      ·subst E;rw[z6e T] at o;rw[zgF];have K5:rC u=(u:Int):=XW ω;refine TW O (Ue (S5 (Sb O (Uw O (Sq O (S2 (Uw O (Tr O (Sq O ((H (i+1) _ ⟨ω,l⟩ ω).sub ?_))))))))));rw[o,K5];exact(by repeat (first|exact Sub.nil|refine Sub.cons O ?_))
      ·obtain⟨c',iZ,dx⟩:=z92 N z.k.i yb (P.ok E) T E;rw[dx] at o;rw[XW E];have Qu:RdX w1.heap.size GS (.slice (some ⟨tb,tO,none⟩) g.length tc) g.length root mb {s with cand:=cand} cl (λ_=>True) w3:=⟨bn,cn,bl,bc,cc,vs,_,F,trivial,trivial,trivial,trivial,λ_ _=>trivial,λ_ _=>trivial⟩;have iJ:=(df ((Si (Tb g) v).take (i+1))).le;rw[o] at iJ
       have K6:c'≠4294967295:=λe=>by
        obtain⟨c3,q1,q2,q3⟩:=z1A N.n z.k.i.fo (2*g.length) c u (P.ok E) T ω;rw[iZ] at q1;cases q1;have:=z.k.i.fo.in_ c' q2;have:=this.lt A hr;omega
       refine TW O<|T0<|S5<|S9 O<|Sg O<|Sz O<|Sf O<|Sr zlR O (zac A Qu N.n z.k.i.fo hr yb (P.ok E) T iZ) ?_;rintro _ w4⟨rfl,aA⟩;refine Sq O (S2 (Uw O (Tr O (Sq O ((H (i+1) _ ⟨ω,l.trans aA⟩ ω).sub ?_)))));rw[o,XW K6];exact(by repeat (first|exact Sub.nil|refine Sub.cons O ?_))
    ·have de:i=(Si (Tb g) v).length:=ω
     subst de;rw[y0K];have EG:(Si (Tb g) v).foldl (meS g.length s.num cand) 4294967295=dsC (Tb g) g.length s.num cand v:=rfl;rw[EG];obtain⟨M,yf⟩:∃M,dsC (Tb g) g.length s.num cand v=M:=⟨_,O⟩;rw[yf] at R⊢;obtain⟨x,V⟩:∃x,cand[v]? =some x:=⟨_,y04 ω⟩;have B:VO cand v=x:=by show cand.getD v 4294967295=x;rw[y0C,V];rfl
     rw[B] at R;refine Sh O (SE O (SC O (Sn Z7 O (qV (Sc Tx O O S O) (Sf O (qV (Tm Tx T8 O O ω) (qV (SQ U3 O O (F.cCa V)) (Sf O ?_))))))));by_cases G:x=M
     ·rw[if_pos G] at R;rw[R] at Q d1;rw[G];refine TK O<|T0<|Tt O<|S2<|Uw O<|UO O<|Sq O ?_;exact(ih (k,(cand,J)) _ ⟨by show k<=s.fin-1;omega,Q,d1,F,Y.trans l.kp⟩ (by show k<k+1;omega)).qb
     ·rw[if_neg G] at R;rw[R] at Q d1;have bB:rC x≠rC M:=λe=>G (zjm e);obtain⟨a0,Ka⟩:=F.c;refine TK O (Ue (S5 (Sb O (SE O (SC O (Sn Z7 O (qV (Sc Tx O O S O) (Sz O (qV (Tm Tx T8 O O ω) (Sm O (TO T8 O O O Ka (by rw[y01,y0h];show 0+v*1<cand.length+_;omega)) ?_))))))))));rintro w5⟨aF,ai⟩;have h5:=F.zl3 (i:=v) (x:=M) (by show v<cand.length;omega) ai aF;refine S5<|Sg O<|Sq O<|S2<|Uw O<|UO O<|Sq O ?_;exact(ih (k,(cand.set v M,true)) _ ⟨by show k<=s.fin-1;omega,Q,d1,h5,(Y.trans l.kp).trans ai⟩ (by show k<k+1;omega)).qb
end
def zb9 (n:Nat)(s:DmS)(cl:Bool)(i:Int):Value:=if cl=true\/s.done=false then .tuple #[Su 0,I 16] else if i<0\/(n:Int)<=i then .tuple #[Su 0,I 1] else .tuple #[Su (dmV (VO s.cand i.toNat)),I 0]
theorem zhE:({s with steps:=k}:DmS).move g={s.move g with steps:=k}:=by
 unfold DmS.move
 dsimp only
 split
 ·rfl
 ·split<;>rfl
def z9h {g:List (List Nat)}{k:Nat}:∀(m:Nat) {s:DmS},({s with steps:=k}:DmS).Tg g m={s.Tg g m with steps:=k}
 |0,s=>rfl
 | m + 1, s => by
   show(if 0<s.Sj then(({s with steps:=k}:DmS).move g).Tg g m else {s with steps:=k})=_;have e:s.Tg g (m+1)=if 0<s.Sj then(s.move g).Tg g m else s:=rfl;rw[e];split
   ·rw[zhE];exact z9h m
   ·rfl
theorem Zb.st_ (h:Zb g root s):Zb g root {s with steps:=k}:=⟨h.nn,h.ln,h.cn,h.sn,h.on,h.st,h.inj,h.op,h.od,h.no,h.rt,h.re,h.ed,h.lk,h.fn,h.pr,h.ct⟩
section
variable {n bl:Nat}{cl:Bool}{Z:Nat->Prop}{go:Nat}
def RdS.zgO (h:RdS B GS TS n root mb bn cn bl bc cc vs vo s cl w)(f:Kp (λb=>b=mb) w w')(hr:Sk w' mb [GS,TS,I (root:Int),.slice (some ⟨bn,0,none⟩) n cn,.slice (some ⟨bl,0,none⟩) n n,vs,vo,.slice (some ⟨bc,0,none⟩) n cc,I (s'.steps:Int),.bool (!s'.T5),.bool s'.done,.bool cl'] 71)(c:s'.num=s.num/\s'.looked=s.looked/\s'.cand=s.cand/\s'.ord=s.ord/\s'.fin=s.fin/\s'.Wv=s.Wv/\s'.Sj=s.Sj)(hB:B<=w.heap.size):RdS B GS TS n root mb bn cn bl bc cc vs vo s' cl' w':=
 h.zjD (f.Se λb e=> .inl e) hr (by
  have:=h.st.kp f (λb d e=>(h.sa b d).2.1 e);rw[c.2.2.2.2.2.1,c.2.2.2.2.2.2]
  exact this) ⟨c.1,c.2.1,c.2.2.1,c.2.2.2.1,c.2.2.2.2.1⟩ (λb d=> .inl d) hB
theorem z8A (h:RdX B GS TS n root mb s true Z w):SG prog 58 [ptr mb 0] w λr w'=>r= .tuple #[.bool false,I 16]/\w'=w:=by
 obtain⟨bn,cn,bl,bc,cc,vs,vo,h,-⟩:=h
 have c:=h.run
 refine py (e:=[(0,_)]) func58 O ntmps58 O O<|qN O<|To O<|SX O<|SC O<|Sn VM O<|qV (Sc U4 O O c O)<|S5<|Sb O<|qN O<|To O<|S3 func58 O ?_
 exact⟨_,O,O,O⟩
theorem z97 (h:RdX B GS TS n root mb s false Z w)(d:s.done=true):SG prog 58 [ptr mb 0] w λr w'=>r= .tuple #[.bool false,I 5]/\w'=w:=by
 obtain⟨bn,cn,bl,bc,cc,vs,vo,h,-⟩:=h
 have c:=h.run
 rw[d] at c
 refine py (e:=[(0,_)]) func58 O ntmps58 O O<|qN O<|To O<|SX O<|SC O<|Sn VM O<|qV (Sc U4 O O c O)<|Tt O<|SX O<|SC O<|Sn z0R O<|qV (Sc U4 O O c O)<|S5<|Sb O ?_
 refine qN O<|To O<|S3 func58 O ?_
 exact⟨_,O,O,O⟩
theorem z7Q (h:RdX B GS TS n root mb s false Z w)(hB:B<=w.heap.size):SG prog 60 [ptr mb 0] w λr w'=>r=I 0/\RdX B GS TS n root mb s true Z w'/\Kp Z w w':=by
 obtain⟨bn,cn,bl,bc,cc,vs,vo,h,f,o,p,q,u,v⟩:=h
 have d:=h.run
 refine py (e:=[(0,_)]) func60 O ntmps60 O O<|TU O<|SX O<|SC O<|Sn VM O<|qV (Sc U4 O O d O)<|Tt O<|SE O<|SC O<|Sn VM O<|Sm O (TO Xh O O O d ξ) ?_
 rintro w2⟨l,c⟩
 have m:=h.zgO (s':=s) (cl':=true) c l ⟨O,O,O,O,O,O,O⟩ hB
 refine qM O<|Sq O<|S3 func60 O ?_
 exact⟨_,O,O,⟨bn,cn,bl,bc,cc,vs,vo,m,f,o,p,q,u,v⟩,c.Se λb e=>by rw[e];exact f⟩
theorem z7d (h:RdX B GS TS n root mb s true Z w):SG prog 60 [ptr mb 0] w λr w'=>r=I 16/\w'=w:=by
 obtain⟨bn,cn,bl,bc,cc,vs,vo,h,-⟩:=h
 have c:=h.run
 refine py (e:=[(0,_)]) func60 O ntmps60 O O<|TU O<|SX O<|SC O<|Sn VM O<|qV (Sc U4 O O c O)<|S5<|Sb O<|TU O<|S3 func60 O ?_
 exact⟨_,O,O,O⟩
theorem z5M (h:RdX B (.slice (some ⟨gb,go,none⟩) n gc) TS n root mb s cl Z w)(i:Int)(z:n<=60)(m:cl=false->∀x∈s.cand,x<4294967296):SG prog 59 [ptr mb 0,I i] w λr w'=>r=zb9 n s cl i/\w'=w:=by
 obtain⟨bn,cn,bl,bc,cc,vs,vo,h,-⟩:=h
 have c:=h.run
 have y:=h.ln.2.2
 unfold zb9
 refine py (e:=[(0,_),(1,_)]) func59 O ntmps59 O O ?_
 cases cl with
 | true =>
   refine qN O<|To O<|SX O<|SC O<|Sn VM O<|qV (Sc U4 O O c O)<|Sf O<|Ua<|Ua<|qS<|Uj O<|S5<|Sb O<|qN O ?_;refine To O<|S3 func59 O ?_;rw[if_pos (.inl O)]
   exact⟨_,O,O,O⟩
 | false =>
   refine qN O<|To O<|SX O<|SC O<|Sn VM O<|qV (Sc U4 O O c O)<|Sf O ?_
   cases l:s.done with
   | false =>
     refine Sf O<|SC O<|Sn z0R O<|qV (Sc U4 O O c O)<|qV (Vn O) ?_;rw[l,show(!false)=true from rfl];refine Td O<|S5<|Sb O<|qN O<|To O<|S3 func59 O ?_;rw[if_pos (.inr O)]
     exact⟨_,O,O,O⟩
   | true =>
     refine Sf O<|SC O<|Sn z0R O<|qV (Sc U4 O O c O)<|qV (Vn O) ?_;rw[l,show(!true)=false from rfl];rw[if_neg ξ];refine Td O<|Tt O<|SX O ?_;by_cases p:i<0
     ·rw[if_pos (.inl p)];refine TW O<|Ue<|Sf O<|Ua<|Ua<|Ua<|qS<|Uj O<|S5<|SI.qb (e:=[(0,_),(1,_),(4,_),(5,_),(27,_)]) ?_;refine Sb O<|qN O<|To O<|S3 func59 O ?_;exact⟨_,O,O,O⟩
     ·refine TW O<|T0<|Sz O<|Sf O<|SC O<|Sn zbw O<|qV (Sc Xw O O c O)<|UR Xw O ?_;by_cases q:(n:Int)<=i
      ·rw[if_pos (.inr q)];refine WZ O<|Ue<|Td O<|S5<|SI.qb (e:=[(0,_),(1,_),(4,_),(5,_),(27,_)]) ?_;refine Sb O<|qN O<|To O<|S3 func59 O ?_;exact⟨_,O,O,O⟩
      ·rw[if_neg ω];obtain⟨v,rfl⟩:∃v:Nat,i=(v:Int):=⟨i.toNat,ω⟩;obtain⟨x,f⟩:∃x,s.cand[v]? =some x:=⟨_,y04 ω⟩;have u:=m O x (y0i f);have o:VO s.cand (v:Int).toNat=x:=by show s.cand.getD v 4294967295=x;rw[y0C,f];rfl
       rw[o];unfold dmV;refine WZ O<|T0<|Td O<|S5<|SI.qb (e:=[(0,_),(1,_),(4,_),(5,_),(27,_)]) ?_;refine VP O (SX O (SC O (Sn Z7 O (qV (Sc Tx O O c O) (Sf O (qV (Tm Tx T8 O O ω) (qV (SQ U3 O O (h.cCa f)) ?_)))))));by_cases d:x=4294967295
       ·rw[if_pos d,show rC x=-1 by rw[d];rfl];refine TW O<|Ue<|S5<|Sb O<|qN O<|To O<|S3 func59 O ?_;exact⟨_,O,O,O⟩
       ·rw[if_neg d,XW d];refine TW O (T0 (Tt O (SE O (SC O (Sn Z7 O (qV (Sc Tx O O c O) (Sf O (qV (Tm Tx T8 O O ω) (qV (SQ U3 O O (h.cCa f)) ?_)))))))));rw[XW d];refine qV (TM O U3 Va ω)<|To O<|S3 func59 O ?_;exact⟨_,O,O,O⟩
theorem zb6 (N:Um g)(tD:GrK C w1 gb go g)(yu:GrK C w1 tb tO (Tb g))(aa:Kp C w1 w)(h:RdX w1.heap.size (.slice (some ⟨gb,go,none⟩) g.length gc) (.slice (some ⟨tb,tO,none⟩) g.length tc) g.length root mb s false Z w)(hJ:DmJ g root s)(hz:s.T5=false->LkZ s)(hd:s.done=false)(hr:root<g.length)(dJ:s.steps<=1000000)(hZ:∀b,Z b->C b):SG prog 58 [ptr mb 0] w λr w'=>r= .tuple #[.bool (s.step g (Tb g) root).done,I 0]/\RdX w1.heap.size (.slice (some ⟨gb,go,none⟩) g.length gc) (.slice (some ⟨tb,tO,none⟩) g.length tc) g.length root mb (s.step g (Tb g) root) false (λb=>Z b\/(w.heap.size<=b/\b<w'.heap.size)) w'/\Kp Z w w'/\((s.step g (Tb g) root).T5=false->LkZ (s.step g (Tb g) root)):=by
 obtain⟨bn,cn,bl,bc,cc,vs,vo,h,W,z2,z3,z4,z5,z6⟩:=h
 have hn:=N.n
 have a3:=aa.size
 obtain⟨a4,a5,a6,a7,a0⟩:=hJ.ls
 have Y:=h.run
 rw[hd] at Y
 refine py (e:=[(0,_)]) func58 O ntmps58 O O<|qN O<|To O<|SX O<|SC O<|Sn VM O<|qV (Sc U4 O O Y O)<|Tt O<|SX O<|SC O<|Sn z0R O<|qV (Sc U4 O O Y O)<|Tt O<|SE O ?_
 refine SC O<|Sn zaT O<|qV (Sc U3 O O Y O)<|Tr O<|SC O<|Sn zaT O ?_
 rw[show(s.steps:Int)+1=((s.steps+1:Nat):Int) by omega]
 refine Sm O (TO T8 O O O Y ξ) ?_
 rintro w2⟨ak,X⟩
 have h2:=h.zgO (s':={s with steps:=s.steps+1}) (cl':=false) X (by
  show Sk w2 mb [_,_,_,_,_,_,_,_,I ((s.steps+1:Nat):Int),.bool (!s.T5),.bool s.done,.bool false] _
  rw[hd];exact ak) ⟨O,O,O,O,O,O,O⟩ a3
 have oq:=X.size
 have aw:Kp C w1 w2:=aa.trans (X.Se λb e=>by rw[e];exact hZ _ W)
 have Dj:Kp Z w w2:=X.Se λb e=>by rw[e];exact W
 have fx:RdX w1.heap.size (.slice (some ⟨gb,go,none⟩) g.length gc) (.slice (some ⟨tb,tO,none⟩) g.length tc) g.length root mb {s with steps:=s.steps+1} false Z w2:=⟨bn,cn,bl,bc,cc,vs,vo,h2,W,z2,z3,z4,z5,z6⟩
 have qz:=h2.run
 refine S5<|SX O<|SC O<|Sn zeA O<|qV (Sc U4 O O qz O)<|qV (Vn O)<|S5 ?_
 cases M:s.T5 with
 | true =>
   obtain⟨par,j,hT,hF,-,-,-,hI,-⟩:=hJ.sw M
   have CY:s.step g (Tb g) root={s with cand:=(Z8 (Tb g) g.length s.num s.ord (s.fin-1) (s.cand,false)).1,done:= !(Z8 (Tb g) g.length s.num s.ord (s.fin-1) (s.cand,false)).2,steps:=s.steps+1}:=by
    unfold DmS.step;rw[if_pos M]
   rw[CY,show(!(!true))=true from rfl];refine Sb O<|TV O<|Sr zpj O (z8R N yu aw hZ fx hT hF hI hr a0) ?_;rintro _ w3⟨rfl,D,o⟩;obtain⟨q,v,p,l,u,A,z,E,K,L,P,V,Q,T⟩:=D;have J:=E.run;have At:=o.size;refine qV (Vn O) (SC O (Sn z0R O (Sm O (TO Xh O O O J ξ) ?_)));rintro G⟨aG,F⟩;have U:=E.zgO (s':={s with cand:=(Z8 (Tb g) g.length s.num s.ord (s.fin-1) (s.cand,false)).1,done:= !(Z8 (Tb g) g.length s.num s.ord (s.fin-1) (s.cand,false)).2,steps:=s.steps+1}) (cl':=false) F aG ⟨O,O,O,O,O,O,O⟩ ω;have k:=U.run;refine S5<|SI.qb (e:=[(0,_),(2,_),(3,_)]) ?_;refine SE O<|SC O<|Sn z0R O<|qV (Sc U4 O O k O)<|To O<|S3 func58 O ?_
   exact⟨_,rfl,rfl,RdX.more ⟨q,v,p,l,u,A,z,U,K,L,P,V,Q,T⟩ (λb e=> .inl e),(Dj.trans o).trans (F.Se λb e=>by rw[e];exact W),λe=>by
    have S:s.T5=false:=e
    rw[M] at S;cases S⟩
 | false =>
   obtain⟨-,hI,hh,-⟩:=hJ.se M;have RW:=WS (g:=g) 64 (s:=s);rw[show(!(!false))=false from rfl];refine VP O<|It<|TU O<|S7 ?_;obtain⟨d,R⟩:∃d:DmS,({s with steps:=s.steps+1}:DmS)=d:=⟨_,O⟩;have jG:Zb g root d:=by rw[<-R];exact hI.st_
   have mV:LkZ d:=by rw[<-R];exact hz M
   have iZ:d.Tg g 64={s.Tg g 64 with steps:=s.steps+1}:=by rw[<-R];exact z9h 64
   have CZ:d.T5=false:=by rw[<-R];exact M
   rw[R] at fx
   have cD:s.step g (Tb g) root=if(d.Tg g 64).Sj=0 then {d.Tg g 64 with T5:=true,cand:=(d.Tg g 64).cand.set root root} else d.Tg g 64:=by
    unfold DmS.step;rw[if_neg (by rw[M];decide),iZ]
   rw[cD];refine VB (λe' w'=>e'=[(0,ptr mb 0)]/\RdX w1.heap.size (.slice (some ⟨gb,go,none⟩) g.length gc) (.slice (some ⟨tb,tO,none⟩) g.length tc) g.length root mb (d.Tg g 64) false (λb=>Z b\/(w.heap.size<=b/\b<w'.heap.size)) w'/\Kp Z w w'/\LkZ (d.Tg g 64)) ?hk<|λhk=>?D3
   case hk=>
    rintro e' w3⟨rfl,D,o,At⟩;have uD:=(Zb.Tg N 64 jG).1;have Dk:=WS (g:=g) 64 (s:=d);obtain⟨m,oz⟩:∃m,d.Tg g 64=m:=⟨_,O⟩;rw[oz] at D At uD Dk⊢;have yQ:m.done=false:=by rw[Dk.2.2,<-R];exact hd
    obtain⟨q,v,p,l,u,A,z,E,K,L,P,V,Q,T⟩:=D
    obtain⟨a1,a2,rfl⟩:∃a c,A= .slice a m.Sj c:=by
     rcases E.st.shape with⟨e1,S⟩|⟨b,c,e,-⟩
     ·exact⟨none,0,by rw[e1,S]⟩
     ·exact⟨_,c,e⟩
    have Kb:=o.size;have J:=E.run;rw[yQ] at J;refine SX O<|SC O<|Sn Z6 O<|qV (Sc Tx O O J O)<|UR Tx O ?_;by_cases Me:m.Sj=0
    ·rw[if_pos Me];refine U7 O (Ue (S5 (Sb O (SE O (SC O (Sn zeA O (Sm O (TO Xh O O O J ξ) ?_)))))));rintro G⟨aG,F⟩
     have U:=E.zgO (s':={m with T5:=true}) (cl':=false) F (by
      show Sk G mb [_,_,_,_,_,_,_,_,_,_,.bool m.done,_] _
      rw[yQ];exact aG) ⟨O,O,O,O,O,O,O⟩ ω
     have Kc:=F.size;have k:=U.run;obtain⟨a8,yo⟩:=U.c;have pC:=uD.cn;have ve:m.cand.length=g.length:=by rw[pC];exact y0b
     have f:=Ext.Sv G;refine S5 (Sx [13] (λw'=>Ext G w') y00 O (Te 0 O O f (SB 1 O (Tu O) f (SB 2 O (SN Z7 O) f (qL 3 O (λ_ h=>Sc Tx O O (h.S4 k) O) f (Te 4 O O f (SB 5 O (Tu O) f (SB 6 O (SN zgC O) f (qL 7 O (λ_ h=>Sc U3 O O (h.S4 k) O) f (Te 8 O O f (SB 9 O (Tu O) f (SB 10 O (SN zgC O) f (qL 11 O (λ_ h=>Sc U3 O O (h.S4 k) O) f ?_)))))))))))));refine SB 12 O (Tm Tx T8 O O ω) f (Wg [13] (qO 13 (SY (i:=13) O O (TO T8 O O O (f.S4 yo) (by rw[y01,y0h];show 0+root*1<m.cand.length+_;omega)) ?_)));rintro w5⟨aF,ai⟩;refine⟨trivial,?_⟩;have Qv:=U.kp (S':=λ_=>False) f.kp ⟨id,id,id,id,λ_ _=>id,λ_ _=>id⟩;have h5:=Qv.zl3 (i:=root) (x:=root) (by show root<m.cand.length;omega) ai (by rw[XW (x:=root) ω];exact aF);have eV:Kp (λb=>b=mb\/b=l) w3 w5:=((F.Se λb e=> .inl e).trans f.kp).trans (ai.Se λb e=> .inr e);have Qw:=eV.size;refine qE<|qN O<|To O<|SI.qb (e:=[(2,_),(3,_)]) ?_;refine S3 func58 O (⟨_,O,by rw[show({m with T5:=true,cand:=m.cand.set root root}:DmS).done=m.done from rfl,yQ];rfl,RdX.more ⟨q,v,p,l,u,_,z,h5,K,L,P,V,Q,T⟩ (λb e=>e.imp id λe=>ω),?_,λe=>by cases e⟩);refine o.An eV λb e=>?_;rcases e with e| e
     ·rw[e];exact .inr W
     ·rw[e];exact V.elim .inr λe=> .inl e.1
    ·rw[if_neg Me];refine U7 O<|T0<|Tt O<|qN O<|To O<|S3 func58 O ?_;exact⟨_,O,by rw[yQ];rfl,⟨q,v,p,l,u,_,z,E,K,L,P,V,Q,T⟩,o,λ_=>At⟩
   case D3 =>
    refine UW (α:=Nat×DmS) (0,d) (λy=>[(0,ptr mb 0),(4,I (y.1:Int))]) (λy w'=>y.1<=64/\DmS.Tg g (64-y.1) y.2=d.Tg g 64/\Zb g root y.2/\LkZ y.2/\RdX w1.heap.size (.slice (some ⟨gb,go,none⟩) g.length gc) (.slice (some ⟨tb,tO,none⟩) g.length tc) g.length root mb y.2 false (λb=>Z b\/(w.heap.size<=b/\b<w'.heap.size)) w'/\Kp Z w w') (λy=>64-y.1) ?hI ?hround
    case hI=>exact⟨y02 _,O,jG,mV,fx.more λb e=> .inl e,Dj⟩
    case hround=>
     rintro⟨i,H⟩ w3 ⟨hi,mh,cC,t,D,o⟩ ih;dsimp only at hi mh cC t D ih⊢;obtain⟨q,v,p,l,u,A,z,E,K,L,P,V,Q,T⟩:=id D
     obtain⟨a1,a2,rfl⟩:∃a c,A= .slice a H.Sj c:=by
      rcases E.st.shape with⟨e1,S⟩|⟨b,c,e,-⟩
      ·exact⟨none,0,by rw[e1,S]⟩
      ·exact⟨_,c,e⟩
     have Kb:=o.size;have J:=E.run;have aT:Kp C w1 w3:=aa.trans (o.Se λb e=>hZ b e)
     try dsimp only
     refine SX O ?_;by_cases Jv:i<64
     ·have jx:(if 0<H.Sj then(H.move g).Tg g (64-(i+1)) else H)=d.Tg g 64:=by
       rw[<-mh,show 64-i=(64-(i+1))+1 by omega];rfl
      refine TW O<|Ue<|Sz O<|SC O<|Sn Z6 O<|qV (Sc Tx O O J O)<|UR Tx O ?_;by_cases B:0<H.Sj
      ·rw[if_pos B] at jx;refine Ub O<|Ue<|Uj O<|S5<|Sb O<|S6<|TZ<|Uw O<|Sr zoY O (zbd N tD aT D cC t B) ?_;rintro _ G⟨B2,F⟩;obtain⟨mN,-⟩:=cC.move N B;have Kc:=F.size;refine S5<|S2<|Uw O<|Tr O<|Sq O ?_
       exact(ih (i+1,H.move g) _ ⟨by show i+1<=64;omega,jx,mN,t.move cC N B,B2.more (λb e=>by
        rcases e with(e|e)| e
        ·exact .inl e
        ·exact .inr ω
        ·exact .inr ω),o.An F λb e=>e.elim .inr λe=> .inl e.1⟩ (by show 64-(i+1)<64-i;omega)).qb
      ·rw[if_neg B] at jx;subst jx;refine Ub O<|T0<|Uj O<|S5<|S9 O<|Sh O ?_;exact(hk _ _ ⟨O,D,o,t⟩).qb
     ·have dF:64-i=0:=ω
      rw[dF,show DmS.Tg g 0 H=H from rfl] at mh;subst mh;refine TW O<|T0<|Sf O<|Ua<|Ua<|Ua<|Td O<|S5<|S9 O<|Sh O ?_;exact(hk _ _ ⟨O,D,o,t⟩).qb
end
def dmN (s:DmS):Nat->Nat
 |0=>s.steps
 |1=>s.fin
 |_=>s.Sj
def z1e (s:DmS):Nat->Sa
 |0=>[]
 |i+1=>z1e s i++WY 4 (dmN s i)
def dmH (s:DmS):Sa:=z1e s 3++[if s.T5 then 1 else 0,if s.done then 1 else 0]
def dmP (s:DmS):Nat->Sa
 |0=>dmH s
 |i+1=>dmP s i++YH 4 (s.vec i)
def dmT (s:DmS):Sa:=dmP s 5
section
variable {n:Nat}
theorem Zn:∀i,(z1e s i).length=4*i
 |0=>rfl
 | i + 1 => by
   show(z1e s i++WY 4 (dmN s i)).length=_;rw[y01,Zn i,T6];omega
theorem zgV:(dmH s).length=14:=by
 unfold dmH
 rw[y01,Zn];rfl
theorem z29 (c:∀j,j<5->(s.vec j).length=n):∀i,i<=5->(dmP s i).length=14+i*(4*n)
 |0,_=>by show(dmH s).length=_;rw[zgV];omega
 | i + 1, h => by
   show(dmP s i++YH 4 (s.vec i)).length=_;rw[y01,z29 c i ω,WR,c i ω,y0r];omega
def z6O (i:Nat):∀k,∃r,dmP s (i+k)=dmP s i++r
 |0=>⟨[],(y0q _).symm⟩
 | k + 1 => by
   obtain⟨r,hr⟩:=z6O i k
   exact⟨r++YH 4 (s.vec (i+k)),by
    show dmP s (i+k)++YH 4 (s.vec (i+k))=_
    rw[hr,y06]⟩
def zjU (c:∀j,j<5->(s.vec j).length=n)(hi:i<5):((dmT s).drop (14+i*(4*n))).take (4*n)=YH 4 (s.vec i):=by
 obtain⟨r,hr⟩:=z6O (s:=s) (i+1) (4-i)
 have e:dmT s=dmP s i++(YH 4 (s.vec i)++r):=by
  have:dmT s=dmP s (i+1)++r:=by rw[<-hr];unfold dmT;congr 1;omega
  rw[this];show(dmP s i++YH 4 (s.vec i))++r=_;rw[y06]
 have d:=z29 c i ω
 have f:=WR 4 (s.vec i)
 rw[c i hi] at f
 rw[e,y11 d,y1a ω]
def z8e (i:Nat):∀k,∃r,z1e s (i+k)=z1e s i++r
 |0=>⟨[],(y0q _).symm⟩
 | k + 1 => by
   obtain⟨r,hr⟩:=z8e i k
   exact⟨r++WY 4 (dmN s (i+k)),by
    show z1e s (i+k)++WY 4 (dmN s (i+k))=_
    rw[hr,y06]⟩
def z86:∃r,dmT s=dmH s++r:=by
 obtain⟨r,hr⟩:=z6O (s:=s) 0 5
 exact⟨r,hr⟩
def zgQ (hi:i<3):∃r,(dmT s).drop (i*4)=WY 4 (dmN s i)++r:=by
 obtain⟨r,hr⟩:=z86 (s:=s)
 obtain⟨q,c⟩:=z8e (s:=s) (i+1) (2-i)
 have e:dmT s=z1e s i++(WY 4 (dmN s i)++(q++([if s.T5 then 1 else 0,if s.done then 1 else 0]++r))):=by
  rw[hr];unfold dmH;rw[show(3:Nat)=i+1+(2-i) by omega,c];show(((z1e s i++WY 4 (dmN s i))++q)++_)++r=_;simp only[y06]
 refine⟨q++([if s.T5 then 1 else 0,if s.done then 1 else 0]++r),?_⟩
 rw[e,y11 (by rw[Zn];omega)]
def zeC:((dmT s).getD 12 0)=(if s.T5 then 1 else 0)/\((dmT s).getD 13 0)=if s.done then 1 else 0:=by
 obtain⟨r,hr⟩:=z86 (s:=s)
 have c:(z1e s 3).length=12:=Zn 3
 rw[hr]
 unfold dmH
 rw[y06,y0C,y0C,y10 (show(z1e s 3).length<=12 by omega),y10 (show(z1e s 3).length<=13 by omega),c]
 exact⟨O,O⟩
theorem zca (ht:t<4294967296)(s:Sa):Sums.num (WY 4 t++s)=t:=by
 have h:WY 4 t=[UInt8.ofNat (t / 16777216),UInt8.ofNat (t / 65536),UInt8.ofNat (t / 256),UInt8.ofNat t]:=by simp[WY,y0T]
 rw[h]
 simp[Sums.num]
 omega
theorem DmJ.vl (h:DmJ g root s):∀j,j<5->(s.vec j).length=g.length:=λj m=>by
 obtain⟨c,d,e,f,l⟩:=h.ls
 obtain rfl|rfl|rfl|rfl|rfl:j=0\/j=1\/j=2\/j=3\/j=4:=ω
 ·exact c
 ·exact d
 ·exact e
 ·exact f
 ·exact l
theorem DmJ.fh (h:DmJ g root s):s.fin<=g.length/\s.Sj<=g.length:=by
 cases c:s.T5 with
 | false =>
   have:=(h.se c).2.1.fh
   omega
 | true =>
   obtain⟨par,j,-,d,-,-,-,-,-,-,-,e⟩:=h.sw c;have:=d.f;omega
def DmJ.nl (h:DmJ g root s)(d:g.length<=40)(c:s.steps<4294967296):∀i,i<3->dmN s i<4294967296:=λi hi=>by
 have:=h.fh
 obtain rfl|rfl|rfl:i=0\/i=1\/i=2:=ω
 ·exact c
 ·show s.fin<_;omega
 ·show s.Sj<_;omega
def z4C (s0 s:DmS)(i:Nat):DmS:={s0 with num:=if 0<i then s.num else s0.num,looked:=if 1<i then s.looked else s0.looked,cand:=if 2<i then s.cand else s0.cand,Wv:=if 3<i then s.Wv else s0.Wv,ord:=if 4<i then s.ord else s0.ord}
theorem z60 (c:j<5):(z4C s0 s i).vec j=if j<i then s.vec j else s0.vec j:=by
 obtain rfl|rfl|rfl|rfl|rfl:j=0\/j=1\/j=2\/j=3\/j=4:=ω
 all_goals rfl
theorem za9 (hi:i<5):(z4C s0 s i).z7h i (s.vec i)=z4C s0 s (i+1):=by
 obtain rfl|rfl|rfl|rfl|rfl:i=0\/i=1\/i=2\/i=3\/i=4:=ω
 all_goals rfl
end
theorem z9D (n:Nat)(o:n<4294967296)(w:World):SG prog 48 [SV n] w λv w'=>v=S (WY 4 n)/\Ext w w':=by
 have h:(WY 4 n).map WD=[Value.int .u8 ((n / 16777216%256:Nat):Int),Value.int .u8 ((n / 65536%256:Nat):Int),Value.int .u8 ((n / 256%256:Nat):Int),Value.int .u8 ((n%256:Nat):Int)]:=by
  simp[WY,WD,y0T]
 refine py (e:=[(0,_)]) func48 O ntmps48 O O<|qN O<|TR O<|qV (XE 24 16777216 O O ψ O)<|qV (z7z O U0 U5)<|Sf O<|qV (XE 16 65536 O O ψ O)<|qV (z7z O U0 U5)<|Sf O<|qV (XE 8 256 O O ψ O)<|qV (z7z O U0 U5)<|Sf O<|qV (z7z O U0 U5)<|Sd O O (pbs (cs:=[_,_,_,_]) (zs:=[Value.int .u8 0,Value.int .u8 0,Value.int .u8 0,Value.int .u8 0]) TT ti5 O y00 O O O ψ) ?_
 rintro _ w1⟨b1,rfl,⟨m,c,d⟩,-⟩
 have f:Sk w1 b1 ((WY 4 n).map WD) 5:=by
  rw[h];exact d
 refine qV (zbn (l:=WY 4 n) TT U5 U9 O f (by rw[y0V];exact y0B (by rw[y0h,T6];omega)) (T6 _ _)) ?_
 refine Sq O<|S3 func48 O ?_
 exact⟨_,O,O,c⟩
def zdg (l:List UInt8)(w:World)(h:4<=l.length):SG prog 53 [S l] w λv w'=>v=U (Sums.num l)/\Ext w w':=by
 have m:=(l.getD 0 0).toNat_lt
 have n:=(l.getD 1 0).toNat_lt
 have o:=(l.getD 2 0).toNat_lt
 have p:=(l.getD 3 0).toNat_lt
 obtain⟨f,c,d⟩:=or3 _ _ _ _ m n o p
 refine py (e:=[(0,_)]) func53 O ntmps53 O O ?_
 rw[f] at c d
 rw[c] at d
 refine TU O<|It<|Ux (λ_=>True) O<|St 0 O O trivial<|S8 1 O (z8E U9 O O ω) trivial<|S8 2 O (z6A O U5 U0 ψ) trivial<|S8 3 O (zeZ 24 16777216 O O ψ O) trivial<|St 4 O O trivial<|S8 5 O (z8E U9 O O ω) trivial<|S8 6 O (z6A O U5 U0 ψ) trivial<|S8 7 O (zeZ 16 65536 O O ψ O) trivial<|St 9 O O trivial<|S8 10 O (z8E U9 O O ω) trivial<|S8 11 O (z6A O U5 U0 ψ) trivial ?_
 refine S8 12 O (zeZ 8 256 O O ψ O) trivial<|St 14 O O trivial<|S8 15 O (z8E U9 O O ω) trivial<|S8 16 O (z6A O U5 U0 ψ) trivial ?_
 rw[y0e (show(l.getD 0 0).toNat*16777216<4294967296 by omega),y0e (show(l.getD 1 0).toNat*65536<4294967296 by omega),y0e (show(l.getD 2 0).toNat*256<4294967296 by omega)]
 refine S8 8 O (zfz O O ω ω) trivial ?_
 rw[f]
 refine S8 13 O (zfz O O ω ω) trivial ?_
 rw[c]
 refine S8 17 O (zfz O O ω ω) trivial ?_
 rw[d]
 refine S8 18 O (UU O) trivial<|qE<|S3 func53 O ?_
 exact⟨_,O,O,Ext.Sv w⟩
def z4s (c:Bool)(w:World):SG prog 49 [.bool c] w λv w'=>v=WD (if c then 1 else 0)/\w'=w:=by
 cases c with
 | true =>
   refine py (e:=[(0,_)]) func49 O ntmps49 O O<|TU O<|SX O<|S5<|Sb O<|TU O<|S3 func49 O ?_
   exact⟨_,O,O,O⟩
 | false =>
   refine py (e:=[(0,_)]) func49 O ntmps49 O O<|TU O<|SX O<|Tt O<|TU O<|S3 func49 O ?_;exact⟨_,O,O,O⟩
section
variable {v:Nat}
theorem z4u (h:UL (Xj T.k root) G T Q txt K X rr O_ a L s w)(V:∀j,j<5->(s.vec j).length=G.g.length)(R:∀i,i<3->dmN s i<4294967296):SG prog 16 [ptr rr 0] w λv w'=>v= .tuple #[S (dmT s),I 0]/\(∀j,j<5->∀x∈s.vec j,x<2^(8*4))/\UL (Xj T.k root) G T Q txt K X rr O_ a L s w'/\Kp (λb=>¬xRu G T X b) w w':=by
 have du:=h.m.n
 obtain⟨vb,E⟩:=h.dm
 have D:=E.cells
 refine py (e:=[(0,_)]) func16 O ntmps16 O O<|qN O<|To O<|SX O<|Sr z1v O (Vr h) ?_
 rintro _ w⟨rfl,rfl⟩
 refine TR O<|TK O ?_
 have hg:=Ext.Sv w
 refine Tt O<|TU O<|It<|It<|Ux (λw'=>Ext w w') O<|St 0 O O hg<|S8 1 O (Tu O) hg<|S8 2 O (SN TJ O) hg<|S8 3 O (SN z73 O) hg<|qT 4 O (λ_ h=>Sc U3 O O (h.S4 D) O) hg<|St 5 O O hg<|S8 6 O (Tu O) hg<|S8 7 O (SN TJ O) hg<|S8 8 O (SN z1x O) hg ?_
 refine qT 9 O (λ_ h=>Sc U3 O O (h.S4 D) O) hg<|St 10 O O hg<|S8 11 O (Tu O) hg<|S8 12 O (SN TJ O) hg<|S8 13 O (SN YZ O) hg<|qT 14 O (λ_ h=>Sc U3 O O (h.S4 D) O) hg<|S8 15 O (zjH (parts:=[(0,.tmp 21),(1,.tmp 26),(2,.tmp 31)]) (cs:=[_,_,_]) zm4 O zo4 T8 O O) hg<|St 16 O O hg<|qE<|SI.qb (e:=[(0,_),(2,_),(3,_),(5,_),(32,_),(33,_)]) ?_
 refine S7<|UW (α:=Nat) (0) (λi=>[(0,ptr rr 0),(5,S (z1e s i)),(32,.agg #[I (s.steps:Int),I (s.fin:Int),I (s.Sj:Int)]),(33,I (i:Int))]) (λi w'=>i<=3/\Ext w w') (λi=>3-i) ?hI ?hround
 case hI=>exact⟨y02 _,hg⟩
 case hround =>
  rintro i w1⟨hi,u⟩ F
  try dsimp only
  refine qN O<|TW O<|S5<|It<|So O (λA=>?_)<|λA=>?_
  ·have r:i<3:=ω
   have J:(#[I (s.steps:Int),I (s.fin:Int),I (s.Sj:Int)]:Array Value)[i]? =some (I (dmN s i:Int)):=by
    obtain rfl|rfl|rfl:i=0\/i=1\/i=2:=ω
    all_goals rfl
   have N:=Zn (s:=s) i;have fO:=T6 4 (dmN s i);refine S6<|TZ<|qN O<|qV (yxa zo4 T8 U3 O O O r (v:=I (dmN s i:Int)) J)<|Sq O<|Sg O<|Sz O<|qV (z4r O U3 U0) ?_;rw[y0e (R i r)];refine Sr zp6 O (z9D (dmN s i) (R i r) _) ?_;rintro _ w2⟨rfl,d⟩;refine qV (Zq O O ω) ?_;rw[show z1e s i++WY 4 (dmN s i)=z1e s (i+1) from rfl];refine Sq O<|S2<|Sg O<|Tr O<|Sf O<|S5 ?_;exact(F (i+1) _ ⟨ω,u.trans d⟩ ω).qb
  ·have r:i=3:=ω
   subst r;have h1:=h.ext u;have t:=E.kp (S:=λ_=>False) u.kp (λ_ _ e=>e);have U:=t.cells;have c:=Ext.Sv w1;have N:=Zn (s:=s) 3;refine Sh O<|It<|Ux (λw'=>Ext w1 w') O<|St 0 O O c<|St 1 O O c<|S8 2 O (Tu O) c<|S8 3 O (SN TJ O) c<|S8 4 O (SN zbt O) c<|qT 5 O (λ_ h=>Sc U4 O O (h.S4 U) O) c<|St 7 O O c<|S8 8 O (Tu O) c<|S8 9 O (SN TJ O) c<|S8 10 O (SN z0z O) c<|qT 11 O (λ_ h=>Sc U4 O O (h.S4 U) O) c ?_;refine VF 6 O zn2 O (z4s s.T5 _) ?_;rintro _ _⟨rfl,rfl⟩;refine⟨c,?_⟩;refine VF 12 O zn2 O (z4s s.done _) ?_;rintro _ _⟨rfl,rfl⟩;refine⟨c,?_⟩;refine qO 13 (z1Y (i:=13) O O O (pbs (cs:=[_,_]) (zs:=[Value.int .u8 0,Value.int .u8 0]) TT ti5 O y00 O O O ψ) ?_);rintro _ w2⟨b2,rfl,⟨bS,d,ak⟩,P⟩;refine⟨c.trans d,?_⟩;have B:Sl w2 (.slice (some ⟨b2,0,none⟩) 2 2) 5 1 2 (([if s.T5 then 1 else 0,if s.done then 1 else 0]:Sa).map WD):=P;refine qO 14 (zjA (i:=14) O O O (ziL (l:=([if s.T5 then 1 else 0,if s.done then 1 else 0]:Sa)) TT U5 U9 O B) (c.trans d) (S8 15 O (Zq O O (by rw[N];exact(by decide:4*3+2<=9223372036854775807))) (c.trans d) ?_));rw[show z1e s 3++([if s.T5 then 1 else 0,if s.done then 1 else 0]:Sa)=dmP s 0 from rfl];have z:=c.trans d;have h2:=h1.ext z;have Z:=t.kp (S:=λ_=>False) z.kp (λ_ _ e=>e);have C:=Z.cells;refine S8 16 O (UU O) (c.trans d)<|qE<|SX O<|SC O<|Sn X5 O<|qV (SO z1c O z61 O (Sk.cells (n:=5) C (news:=[_,_,_,_,_]) O) O)<|Sf O<|S5<|SI.qb (e:=[(5,_),(61,_),(62,_)]) ?_;refine S7<|UW (α:=Nat) (0) (λi=>[(5,S (dmP s i)),(61,.agg #[ptr (vb 0) 0,ptr (vb 1) 0,ptr (vb 2) 0,ptr (vb 3) 0,ptr (vb 4) 0]),(62,I (i:Int))]) (λi w'=>i<=5/\UL (Xj T.k root) G T Q txt K X rr O_ a L s w'/\DmV Q txt G.k T.k root rr O_ a L s vb w'/\Kp (λb=>¬xRu G T X b) w w') (λi=>5-i) ?hI ?hround
   case hI=>exact⟨y02 _,h2,Z,(u.trans z).kp⟩
   case hround=>
    rintro i w4⟨hi,f,H,M⟩ F
    try dsimp only
    refine qN O<|TW O<|S5<|It<|So O (λA=>?_)<|λA=>?_
    ·have q:i<5:=ω
     have J:(#[ptr (vb 0) 0,ptr (vb 1) 0,ptr (vb 2) 0,ptr (vb 3) 0,ptr (vb 4) 0]:Array Value)[i]? =some (ptr (vb i) 0):=by
      obtain rfl|rfl|rfl|rfl|rfl:i=0\/i=1\/i=2\/i=3\/i=4:=ω
      all_goals rfl
     have gS:=z29 V i ω;have pM:=WR 4 (s.vec i);have RX:=V i q;have aO:i*(4*G.g.length)<=5*(4*40):=y1k ω ω;refine S6<|TZ<|qN O<|qV (yxa z1c ZZ z2W O O O q (v:=ptr (vb i) 0) J)<|TR O<|Sr zpf O (zbq f.sp f.lt f.m.g.z9z (H.vs i q).1 (.inl (.inl (f.xr _ (H.o.2 i q))))) ?_;rintro _ w5⟨rfl,iE,y⟩;have h5:=f.read y iE;have oJ:DmV Q txt G.k T.k root rr O_ a L s vb w5:=H.kp y (λb e W=>W (.inl (.inl (f.xr b e))));refine Sf O (Vk O (To O (SX O (TK O (Tt O (Sg O (Sz O (qV (Zq O O ω) ?_))))))));rw[show dmP s i++YH 4 (s.vec i)=dmP s (i+1) from rfl];refine Sq O<|S2<|Sg O<|Tr O<|Sf O<|S5 ?_;exact(F (i+1) _ ⟨ω,h5,oJ,M.trans y⟩ ω).qb
    ·have q:i=5:=ω
     subst q;refine Sh O<|SE O<|To O<|S3 func16 O ?_
     exact⟨_,rfl,rfl,λj hj x hx=>by
      obtain⟨p,hp⟩:=y2q hx
      exact((E.vs j hj).1.zfZ hp).1,f,M⟩
end
theorem We {b3 n:Nat}{r:Sa}(hB:Sk w b3 [S tx] 9)(hi:i<3)(f:tx.drop (i*4)=WY 4 n++r)(h:n<4294967296)(d:i*4<=tx.length):SG prog 52 ([I (i:Int)]++[ptr b3 0]) w λv w'=>v=I (n:Int)/\Ext w w':=by
 have l:=T6 4 n
 refine py (e:=[(0,_),(1,_)]) func52 O ntmps52 O O<|qN O<|Up O<|qV (Sc U9 O O hB O)<|Sf O<|qV (Zf O O ω) ?_
 rw[show(i:Int)*4=((i*4:Nat):Int) by omega]
 refine qV (z3t (m:=i*4) U9 O O d) ?_
 rw[f]
 refine Sr zpm O (zdg _ _ (by rw[y01];omega)) ?_
 rintro _ w1⟨rfl,c⟩
 rw[zca h]
 refine qV (T7 O U0 U3 ω)<|Sq O<|S3 func52 O ?_
 exact⟨_,O,O,c⟩
section
variable {v:Nat}
theorem zbC (h:UL (Xj T.k root) G T Q txt K X rr O_ a L s0 w)(oA:∀j,j<5->(s0.vec j).length=G.g.length)(Z:∀j,j<5->(s.vec j).length=G.g.length)(h4:∀j,j<5->∀x∈s.vec j,x<2^(8*4))(D:∀i,i<3->dmN s i<4294967296)(Ji:s.fin<=G.g.length/\s.Sj<=G.g.length)(hK:K<=700000000000):SG prog 18 [ptr rr 0,S (dmT s)] w λv w'=>v=I 0/\(∃txt',UL (Xj T.k root) G T Q txt' (K+5) X rr O_ a L s w'/\∀y:Int,y<(a:Int)\/(a:Int)+(L:Int)<=y->txt' y=txt y)/\Kp (λb=>¬X b\/O_ b) w w':=by
 have du:=h.m.n
 have cx:=h.far
 have bR:∀b,X b->b<w.heap.size:=λb hb=>h.lt b (.inl (.inl hb))
 obtain⟨vb,hV⟩:=h.dm
 have hR:=hV.cells
 have ax:(dmT s).length=14+5*(4*G.g.length):=z29 Z 5 (y07 _)
 have A:=λi (hi:i<3)=>zgQ (s:=s) hi
 obtain⟨iG,qQ⟩:=zeC (s:=s)
 have xo:=λi (hi:i<5)=>zjU (s:=s) Z hi
 generalize dmT s=tx at ax A iG qQ xo
 obtain⟨d1,sD,Qx,Ke⟩:∃d:Nat,(tx.getD 12 0).toNat=d/\d<=1/\decide ((d:Int)=1)=s.T5:=by
  rw[iG];cases s.T5
  ·exact⟨0,O,ψ,O⟩
  ·exact⟨1,O,ψ,O⟩
 obtain⟨d2,qX,Qy,Kf⟩:∃d:Nat,(tx.getD 13 0).toNat=d/\d<=1/\decide ((d:Int)=1)=s.done:=by
  rw[qQ];cases s.done
  ·exact⟨0,O,ψ,O⟩
  ·exact⟨1,O,ψ,O⟩
 refine py (e:=[(0,_),(1,_)]) func18 O ntmps18 O O<|qN O<|Sd O O (UD O (cs:=[S tx]) O) ?_
 rintro _ w1⟨b3,rfl,dS,aa,p⟩
 have z1:=aa.size
 have l1:=p.lt
 have h1:=h.ext aa
 have eQ:=aa.S4 hR
 refine Sq O<|SX O<|Sr z1v O (Vr h1) ?_
 rintro _ w1⟨rfl,rfl⟩
 refine TR O<|TK O<|Tt O<|SE O<|SC O<|Sn z0Q O<|qV (Sc U28 O O eQ O)<|Sr z3K O (z7u h1) ?_
 rintro _ w1⟨rfl,rfl⟩
 refine Sq O<|It<|qN O<|qV (Sc U9 O O p O)<|qV (Ys U9 O)<|Sf O<|qV (Zf O O ω)<|Tr O<|TK O<|T0<|Tt O<|qN O<|qV (ymf (first:=[]) (caps:=[.tmp 3]) O O)<|Sq O ?_
 refine It<|Tc (λe' w'=>∃f:Nat,e'=[(0,ptr rr 0),(3,ptr b3 0),(6,I (G.g.length:Int)),(8,ptr f 0)]/\Ext w1 w'/\w1.heap.size<=f/\Sk w' f [I (s.steps:Int),I (s.fin:Int),I (s.Sj:Int),.bool s.T5,.bool s.done] 99) ?eu<|λeu=>?vK
 case eu=>
  rintro e' w2⟨f,rfl,aw,iH,c⟩;have aL:=aa.trans aw;have z2:=aL.size;have l8:=c.lt;have dt:=aw.S4 p;obtain⟨z,fX⟩:∃z:Nat->Prop,(λj=>X j\/j=b3\/j=f)=z:=⟨_,O⟩;have gJ:∀j,X j->z j:=λj E=>by rw[<-fX];exact .inl E
  have aO:z b3/\z f:=by rw[<-fX];exact⟨.inr (.inl O),.inr (.inr O)⟩
  have h2:UL (Xj T.k root) G T Q txt K z rr O_ a L s0 w2:=h.grow aL (λj E=>by rw[<-fX] at E;exact E.imp id λe=>ω) gJ;have md:=hV.kp (S:=λ_=>False) aL.kp (λ_ _ e=>e);have cu:=md.cells;refine It<|qN O<|Sn z1x O<|qV (Sc U3 O O c O)<|Sf O<|Ub O<|T0<|Sf O<|Sn YZ O<|qV (Sc U3 O O c O)<|Sf O<|Ub O<|T0<|Td O ?_;refine Tt O<|SX O<|SC O<|Sn X5 O<|qV (SO z1c O z61 O (Sk.cells (n:=5) cu (news:=[_,_,_,_,_]) O) O)<|Sf O<|S5<|S7<|UW (α:=Nat) (0) (λi=>[(0,ptr rr 0),(3,ptr b3 0),(6,I (G.g.length:Int)),(8,ptr f 0),(56,.agg #[ptr (vb 0) 0,ptr (vb 1) 0,ptr (vb 2) 0,ptr (vb 3) 0,ptr (vb 4) 0]),(57,I (i:Int))]) (λi w'=>i<=5/\(∃txt',UL (Xj T.k root) G T Q txt' (K+i) z rr O_ a L (z4C s0 s i) w'/\DmV Q txt' G.k T.k root rr O_ a L (z4C s0 s i) vb w'/\∀y:Int,y<(a:Int)\/(a:Int)+(L:Int)<=y->txt' y=txt y)/\Sk w' b3 [S tx] 9/\Sk w' f [I (s.steps:Int),I (s.fin:Int),I (s.Sj:Int),.bool s.T5,.bool s.done] 99/\Kp (λb=>¬xRu G T z b) w2 w') (λi=>5-i) ?hI ?hround
  case hI=>exact⟨y02 _,⟨txt,h2,md,λ_ _=>rfl⟩,dt,c,Kp.refl _ _⟩
  case hround=>
   rintro i w4⟨hi,⟨B,W,t,kW⟩,dj,dZ,ao⟩ ih;dsimp only
   try dsimp only
   refine qN O<|TW O<|S5<|It<|So O (λh0=>?_)<|λh0=>?_
   ·have q:i<5:=ω
    have tN:(#[ptr (vb 0) 0,ptr (vb 1) 0,ptr (vb 2) 0,ptr (vb 3) 0,ptr (vb 4) 0]:Array Value)[i]? =some (ptr (vb i) 0):=by
     obtain rfl|rfl|rfl|rfl|rfl:i=0\/i=1\/i=2\/i=3\/i=4:=ω
     all_goals rfl
    have tv:((z4C s0 s i).vec i).length=G.g.length:=by rw[z60 q,if_neg ω];exact oA i q
    have hu:z3m 4 ((z4C s0 s i).vec i).length (YH 4 (s.vec i))=s.vec i:=by rw[tv,<-Z i q];exact z5j (h4 i q)
    obtain⟨N,hN⟩:∃N,4*G.g.length=N:=⟨_,O⟩
    have RY:i*N+N<=5*N:=by
     have:=y0Y N (show i+1<=5 by omega);rw[y0r] at this;omega
    have Qz:N<=160:=ω
    have iZ:(i:Int)*4*(G.g.length:Int)=((i*N:Nat):Int):=by rw[<-hN];push_cast;rw[Int.mul_assoc]
    have dx:(4:Int)*(G.g.length:Int)=(N:Int):=by rw[<-hN];push_cast;rfl
    have Mf:=xo i q;rw[hN] at Mf ax;have BV:=z9M W.sp W.lt ω (t.vs i q).1 (.inl (.inl (W.xr _ (t.o.2 i q)))) (s:=YH 4 (s.vec i)) (by rw[WR,tv,Z i q]);refine S6 (TZ (SE O (qV (yxa z1c ZZ z2W O O O q (v:=ptr (vb i) 0) tN) (Vj O (TR O (qV (Zf O O ω) (Sf O (qV (Zf O O (by rw[iZ];omega)) ?_))))))));rw[iZ];refine Tr O ?_;rw[show(14:Int)+((i*N:Nat):Int)=((14+i*N:Nat):Int) by push_cast;rfl];refine TR O (qV (Sc U9 O O dj O) (Sz O (Sf O (qV (Zf O O (by rw[dx];omega)) ?_))));rw[dx];refine Tr O ?_;rw[show((14+i*N:Nat):Int)+(N:Int)=((14+i*N+N:Nat):Int) by push_cast;rfl];refine qV (zjO (m:=14+i*N) (n:=14+i*N+N) U9 O O O ω) ?_;rw[show 14+i*N+N-(14+i*N)=N by omega,Mf];refine Sr zoK O BV ?_;rintro _ w5⟨rfl,hW⟩;rw[hu,Wx (show(DmS.vec _ i).length<=100 by rw[tv];omega)] at hW;obtain⟨C,h5,oJ,Iv,U⟩:=W.z52 t q (by rw[tv];exact Z i q) ω hW;rw[za9 q] at h5 oJ;have zw:∀{j},z j->¬¬xRu G T z j:=λE e=>e (.inl (.inl E));have cJ:=U.S4 dj (zw aO.1);have bH:=U.S4 dZ (zw aO.2);refine TR O<|TK O<|Tt O<|S2<|Sg O<|Tr O<|Sf O<|S5 ?_;exact(ih (i+1) _ ⟨ω,⟨C,h5,oJ,λy e=>(Iv y e).trans (kW y e)⟩,cJ,bH,ao.trans U⟩ ω).qb
   ·have q:i=5:=ω
    subst q;have dX:=t.cells;refine Sh O (SE O (qV (SO U99 O z1d O (Sk.cells (n:=5) dZ (news:=[_,_,_,_,_]) O) O) (SC O (Sn TJ O (Sm O (Ta (news:=[I (s.steps:Int),I (s.fin:Int),I (s.Sj:Int),.bool s.T5,.bool s.done]) z1d O O O O dX ξ) ?_)))));rintro w5⟨iC,U⟩;have h5:=W.zdU (s':=s) t U iC (λj E=>by rw[z60 E,if_pos E]);refine qM O<|Sq O<|S3 func18 O ?_;exact⟨_,O,O,⟨B,h5.less gJ h.xk h.xr,kW⟩,((aL.kp.trans (ao.Se λb e e2=>e (.inl (.inl (gJ b e2))))).Se λb e=> .inl e).trans (U.Se λb e=> .inr (by rw[e];exact hV.o.1))⟩
 case vK=>
  have hg:=Ext.Sv w1;refine Sx [14] (λw'=>Ext w1 w') y00 O (Te 0 O O hg (Te 2 O O hg (Te 4 O O hg (qL 6 O (λ_ h=>Sc U9 O O (h.S4 p) O) hg (SB 7 O (z8E U9 O O ω) hg (qL 9 O (λ_ h=>Sc U9 O O (h.S4 p) O) hg (SB 10 O (z8E U9 O O ω) hg ?_)))))));rw[sD,qX];refine SB 8 O (yeq O O) hg<|SB 11 O (yeq O O) hg ?_;rw[Ke,Kf];refine Zj (i:=1) (j:=13) y00 ?_ ?_
  ·obtain⟨r0,jN⟩:=A 0 ψ;refine Uu (i:=1) O O O (Vc z6I O O) (We (hg.S4 p) (i:=0) ψ jN (D 0 ψ) ω) ?_;rintro _ a0⟨rfl,mt⟩;refine⟨hg.trans mt,?_⟩
   try have c:=mt.S4 c
   have hg:=hg.trans mt;refine Zj (i:=3) (j:=13) y00 ?_ ?_
   ·obtain⟨r1,V⟩:=A 1 ψ;refine Uu (i:=3) O O O (Vc z6I O O) (We (hg.S4 p) (i:=1) ψ V (D 1 ψ) ω) ?_;rintro _ P⟨rfl,u⟩;refine⟨hg.trans u,?_⟩
    try have c:=u.S4 c
    have hg:=hg.trans u;refine Zj (i:=5) (j:=13) y00 ?_ ?_
    ·obtain⟨r2,H⟩:=A 2 ψ;refine Uu (i:=5) O O O (Vc z6I O O) (We (hg.S4 p) (i:=2) ψ H (D 2 ψ) ω) ?_;rintro _ R⟨rfl,l⟩;refine⟨hg.trans l,?_⟩
     try have c:=l.S4 c
     have hg:=hg.trans l;refine SB 12 O (VI (cs:=[_,_,_,_,_]) z1d O zh4 O O) hg ?_;have Kg:=hg.size;refine U6 (i:=13) y00<|Ty (i:=13) O O O (UK (cs:=[_,_,_,_,_]) z1d O) ?_;rintro _ wd⟨f,rfl,iH,r,c⟩;refine⟨hg.trans r,?_⟩;have hg:=hg.trans r;have M:w1.heap.size<=f:=ω
     refine Wg [14] (qO 14 (SY (i:=14) O O (Ta (news:=[I (s.steps:Int),I (s.fin:Int),I (s.Sj:Int),.bool s.T5,.bool s.done]) z1d O O O O c ξ) ?_));rintro we⟨F,J⟩;refine⟨trivial,?_⟩;refine qE<|SI.qb (e:=[(0,_),(3,_),(4,_),(6,_),(8,_)]) ?_;exact(eu _ _ ⟨f,O,hg.An J (λj e=>ω),M,F⟩).qb
    ·have Kg:=hg.size;refine Ty (i:=13) O O O (UK (cs:=[_,_,_,_,_]) z1d O) ?_;rintro _ wd⟨f,rfl,iH,r,c⟩;refine⟨hg.trans r,?_⟩;have hg:=hg.trans r;have M:w1.heap.size<=f:=ω
     obtain⟨r2,H⟩:=A 2 ψ;refine U6 (i:=5) y00 (Uu (i:=5) O O O (Vc z6I O O) (We (hg.S4 p) (i:=2) ψ H (D 2 ψ) ω) ?_);rintro _ R⟨rfl,l⟩;refine⟨hg.trans l,?_⟩
     try have c:=l.S4 c
     have hg:=hg.trans l;refine SB 12 O (VI (cs:=[_,_,_,_,_]) z1d O zh4 O O) hg (Wg [14] (qO 14 (SY (i:=14) O O (Ta (news:=[I (s.steps:Int),I (s.fin:Int),I (s.Sj:Int),.bool s.T5,.bool s.done]) z1d O O O O c ξ) ?_)));rintro we⟨F,J⟩;refine⟨trivial,?_⟩;refine qE<|SI.qb (e:=[(0,_),(3,_),(4,_),(6,_),(8,_)]) ?_;exact(eu _ _ ⟨f,O,hg.An J (λj e=>ω),M,F⟩).qb
   ·have Kg:=hg.size;refine Ty (i:=13) O O O (UK (cs:=[_,_,_,_,_]) z1d O) ?_;rintro _ wd⟨f,rfl,iH,r,c⟩;refine⟨hg.trans r,?_⟩;have hg:=hg.trans r;have M:w1.heap.size<=f:=ω
    obtain⟨r1,V⟩:=A 1 ψ;refine U6 (i:=3) y00 (Uu (i:=3) O O O (Vc z6I O O) (We (hg.S4 p) (i:=1) ψ V (D 1 ψ) ω) ?_);rintro _ P⟨rfl,u⟩;refine⟨hg.trans u,?_⟩
    try have c:=u.S4 c
    have hg:=hg.trans u;obtain⟨r2,H⟩:=A 2 ψ;refine U6 (i:=5) y00 (Uu (i:=5) O O O (Vc z6I O O) (We (hg.S4 p) (i:=2) ψ H (D 2 ψ) ω) ?_);rintro _ R⟨rfl,l⟩;refine⟨hg.trans l,?_⟩
    try have c:=l.S4 c
    have hg:=hg.trans l;refine SB 12 O (VI (cs:=[_,_,_,_,_]) z1d O zh4 O O) hg (Wg [14] (qO 14 (SY (i:=14) O O (Ta (news:=[I (s.steps:Int),I (s.fin:Int),I (s.Sj:Int),.bool s.T5,.bool s.done]) z1d O O O O c ξ) ?_)));rintro we⟨F,J⟩;refine⟨trivial,?_⟩;refine qE<|SI.qb (e:=[(0,_),(3,_),(4,_),(6,_),(8,_)]) ?_;exact(eu _ _ ⟨f,O,hg.An J (λj e=>ω),M,F⟩).qb
  ·have Kg:=hg.size;refine Ty (i:=13) O O O (UK (cs:=[_,_,_,_,_]) z1d O) ?_;rintro _ wd⟨f,rfl,iH,r,c⟩;refine⟨hg.trans r,?_⟩;have hg:=hg.trans r;have M:w1.heap.size<=f:=ω
   obtain⟨r0,jN⟩:=A 0 ψ;refine U6 (i:=1) y00 (Uu (i:=1) O O O (Vc z6I O O) (We (hg.S4 p) (i:=0) ψ jN (D 0 ψ) ω) ?_);rintro _ a0⟨rfl,mt⟩;refine⟨hg.trans mt,?_⟩
   try have c:=mt.S4 c
   have hg:=hg.trans mt;obtain⟨r1,V⟩:=A 1 ψ;refine U6 (i:=3) y00 (Uu (i:=3) O O O (Vc z6I O O) (We (hg.S4 p) (i:=1) ψ V (D 1 ψ) ω) ?_);rintro _ P⟨rfl,u⟩;refine⟨hg.trans u,?_⟩
   try have c:=u.S4 c
   have hg:=hg.trans u;obtain⟨r2,H⟩:=A 2 ψ;refine U6 (i:=5) y00 (Uu (i:=5) O O O (Vc z6I O O) (We (hg.S4 p) (i:=2) ψ H (D 2 ψ) ω) ?_);rintro _ R⟨rfl,l⟩;refine⟨hg.trans l,?_⟩
   try have c:=l.S4 c
   have hg:=hg.trans l;refine SB 12 O (VI (cs:=[_,_,_,_,_]) z1d O zh4 O O) hg (Wg [14] (qO 14 (SY (i:=14) O O (Ta (news:=[I (s.steps:Int),I (s.fin:Int),I (s.Sj:Int),.bool s.T5,.bool s.done]) z1d O O O O c ξ) ?_)));rintro we⟨F,J⟩;refine⟨trivial,?_⟩;refine qE<|SI.qb (e:=[(0,_),(3,_),(4,_),(6,_),(8,_)]) ?_;exact(eu _ _ ⟨f,O,hg.An J (λj e=>ω),M,F⟩).qb
end
section
variable {sv vb:Nat}
def za1 {width:Nat}{xs:List Nat}(c:YJ Q txt vb width sv xs w){i:Int}(hi:i<0\/(xs.length:Int)<=i):SG prog 55 [ptr vb 0,I i] w λv w'=>v= .tuple #[Su 0,I 1]/\w'=w:=by
 have hB:=c.cells
 refine py (e:=[(0,_),(1,_)]) func55 O ntmps55 O O<|qN O<|To O<|SX O<|Sr zaX O (VU c) ?_
 rintro _ w⟨rfl,rfl⟩
 refine TR O<|TK O ?_
 by_cases d:i<0
 ·refine Tt O<|SX O<|TW O<|Ue<|Sf O<|Ua<|Ua<|Ua<|qS<|Uj O<|S5<|Sb O<|qN O<|To O ?_;refine S3 func55 O ?_;exact⟨_,O,O,O⟩
 ·have f:(xs.length:Int)<=i:=hi.resolve_left d;refine Tt O<|SX O<|TW O<|T0<|Sz O<|Sf O<|SC O<|Sn Uz O<|Sn z0T O<|qV (Sc U3 O O hB O)<|WZ O<|Ue<|Td O<|S5 ?_;refine Sb O<|qN O<|To O<|S3 func55 O ?_;exact⟨_,O,O,O⟩
end
def z8N (s:DmS)(g t root:Nat)(vb:Nat->Nat):List Value:=[I (s.steps:Int),I (s.fin:Int),I (s.Sj:Int),.bool s.T5,.bool s.done,ptr g 0,ptr t 0,I (root:Int),ptr (vb 0) 0,ptr (vb 1) 0,ptr (vb 2) 0,ptr (vb 3) 0,ptr (vb 4) 0,.bool false,.bool true]
section
variable {v gk tk:Nat}
theorem z6y (h:UL (Xj T.k root) G T Q txt K X rr O_ a L s w)(yl:2<=a)(E:a+5<=Q.L.length)(ym:∀i,a<=i->i<a+5->Q.L[i]? =some true):SG prog 17 [ptr rr 0] w λr w'=>r=I 0/\∃txt',Gw2 G T (Q.Tl (Th Q.L a 5 false)) txt' K X w'/\(∀y:Int,y<(a:Int)\/(a:Int)+5<=y->txt' y=txt y)/\Kp (λb=>¬X b\/O_ b) w w'/\∃vb,Sk w' rr (z8N s G.k T.k root vb) 103:=by
 have du:=h.m.n
 have xF:=h.YA
 have JI:=h.m.YA
 obtain⟨vb,f⟩:=h.dm
 have M:=f.cells
 have rB:=h.xr _ f.o.1
 have N:∀b,xRu G T X b->b<w.heap.size:=h.lt
 have W:∀b,O_ b->b≠G.k/\b≠G.x/\b≠T.k/\b≠T.x/\b≠1/\b≠2:=λb U=>by
  have D:=h.m.ne b U;have P:=h.nk b U;exact⟨D.1,D.2.1,P.1,P.2,D.2.2.1,D.2.2.2⟩
 obtain⟨A,p⟩:∃A:List Vc1,(List.range 5).map (λj=>(⟨vb j,4,a+j,s.vec j⟩:Vc1))=A:=⟨_,O⟩
 have q:∀j,j<5->(⟨vb j,4,a+j,s.vec j⟩:Vc1).st=a+j/\(⟨vb j,4,a+j,s.vec j⟩:Vc1).len=1:=λj c=>⟨O,Wx (f.vs j c).2⟩
 have L0:A.length=5:=by rw[<-p,y0h,y16]
 have aO:∀v∈A,xRu G T X v.vb/\a<=v.st/\v.st+v.len<=a+5:=λv d=>by
  rw[<-p] at d;obtain⟨j,c,rfl⟩:=zhF d;obtain⟨e1,F⟩:=q j c;exact⟨.inl (.inl (h.xr _ (f.o.2 j c))),ω,ω⟩
 have yn:∀v∈A,O_ v.vb/\v.vb≠rr:=λv d=>by
  rw[<-p] at d;obtain⟨j,c,rfl⟩:=zhF d;exact⟨f.o.2 j c,λe=>(f.ne j c).1 e.symm⟩
 have zT:zaF A:=λi j u v V d gR=>by
  rw[<-p] at V d;obtain⟨hi,rfl⟩:=z7B V;obtain⟨c,rfl⟩:=z7B d;obtain⟨e1,F⟩:=q i hi;obtain⟨e3,e4⟩:=q j c;exact⟨(f.ne j c).2 i hi gR,ω⟩
 have fC:Zm Q.L A=Th Q.L a 5 false:=by rw[<-p];exact zkH q E
 refine py (e:=[(0,_)]) func17 O ntmps17 O O<|TU O<|TZ<|SE O<|qV (T9 U44 O O)<|Sq O<|S9 O<|SE O<|SC O<|Sn ZR O<|qV (Sc U4 O O M O)<|Sq O ?_
 have JJ:∀(j:Nat)(v:Vc1),A[j]? =some v->YJ Q txt v.vb v.width v.st v.xs w:=λj v c=>by
  rw[<-p] at c;obtain⟨zS,rfl⟩:=z7B c;exact(f.vs j zS).1
 refine VP O<|S2<|SX O<|SC O<|Sn X5 O<|qV (SO z1c O z61 O (Sk.cells (n:=5) M (news:=[_,_,_,_,_]) O) O)<|Sf O<|S5<|S7<|UW (α:=Nat) (0) (λi=>[(0,ptr rr 0),(17,.agg #[ptr (vb 0) 0,ptr (vb 1) 0,ptr (vb 2) 0,ptr (vb 3) 0,ptr (vb 4) 0]),(18,I (i:Int))]) (λi w'=>i<=5/\zbh Q txt K (xRu G T X) A a 5 w i w') (λi=>5-i) ?hI ?hround
 case hI=>exact⟨y02 _,.zero h.sp JJ⟩
 case hround=>
  rintro i w4⟨hi,S⟩ ih
  try dsimp only
  refine qN O<|TW O<|S5<|It<|So O (λJ=>?_)<|λJ=>?_
  ·have H:i<5:=ω
   obtain⟨v,d⟩:∃v,A[i]? =some v:=⟨_,y04 ω⟩
   have tN:(#[ptr (vb 0) 0,ptr (vb 1) 0,ptr (vb 2) 0,ptr (vb 3) 0,ptr (vb 4) 0]:Array Value)[i]? =some (ptr v.vb 0):=by
    have R:=d;rw[<-p] at R;obtain⟨-,rfl⟩:=z7B R;obtain rfl|rfl|rfl|rfl|rfl:i=0\/i=1\/i=2\/i=3\/i=4:=ω
    all_goals rfl
   refine S6<|TZ<|qN O<|qV (yxa z1c ZZ z2W O O O H (v:=ptr v.vb 0) tN)<|Sq O<|SX O<|qV (T9 z2W O O)<|Tt O<|SE O<|Sr znN O (S.next N d aO zT yl E ym) ?_;rintro _ w5⟨rfl,kC⟩;refine TR O<|TK O<|Tt O<|S2<|Sg O<|Tr O<|Sf O<|S5 ?_;exact(ih (i+1) _ ⟨ω,kC⟩ ω).qb
  ·have H:i=5:=ω
   subst H;obtain⟨⟨l,Z,-,C⟩,ao⟩:=S;rw[y0B ω,fC] at Z;have z:Kp (λb=>¬xRu G T X b\/(O_ b/\b≠rr)) w w4:=ao.Se λb e=>e.imp id λ⟨v,d,e⟩=>by rw[e];exact yn v d
   have J:Gw2 G T Q txt K X w:=⟨h.m.g,h.t,h.xk⟩;have z4:=z.size;have h4:Gw2 G T (Q.Tl (Th Q.L a 5 false)) l K X w4:=J.upd z (λb e=>e.imp id λe=>⟨h.xr _ e.1,W b e.1⟩) (λ_ e=>e) (λ_ e=> .inl e) (λj e=>by have:=N j (.inl (.inl e));omega) Z O (TE E) h.m.g.z9z (λy e=>C y (.inl ω));have dX:=z.S4 M (λe=>e.elim (λe=>e (.inl (.inl rB))) λe=>e.2 O);refine Sh O (SE O (SC O (Sn ZR O (Sm O (TO Xh O O O dX ξ) ?_))));rintro w6⟨eZ,B⟩;refine qM O<|Sq O<|S3 func17 O ?_;exact⟨_,O,O,l,h4.own B (λj e=>by rw[e];exact⟨rB,W rr f.o.1⟩),C,(z.Se λb e=>e.imp (λe F=>e (.inl (.inl F))) And.left).trans (B.Se λb e=> .inr (by rw[e];exact f.o.1)),vb,eZ⟩
def ZQ (hB:Sk w rr (z8N s gk tk root vb) 103):SG prog 45 [ptr rr 0] w λr w'=>r=I 16/\w'=w:=by
 refine py (e:=[(0,_)]) func45 O ntmps45 O O<|TU O<|TZ<|SE O<|qV (T9 U44 O O)<|Sq O<|S9 O<|SE O<|SC O<|Sn zcw O<|qV (Sc U4 O O hB O)<|Sz O<|SC O<|Sn ZR O ?_
 refine qV (Sc U4 O O hB O)<|Td O<|Sq O<|Sb O<|TU O<|S3 func45 O ?_
 exact⟨_,O,O,O⟩
theorem z99 (hB:Sk w rr (z8N s gk tk root vb) 103):SG prog 15 [ptr rr 0] w λr w'=>r= .tuple #[.bool false,I 16]/\Ext w w':=by
 refine py (e:=[(0,_)]) func15 O ntmps15 O O<|qN O<|Sd O O (UD O (cs:=[ptr rr 0]) O) ?_
 rintro _ w1⟨b1,rfl,F,m,n⟩
 refine Sd O O (UK (cs:=[_]) Xh O) ?_
 rintro _ w2⟨b2,rfl,E,f,d⟩
 refine Sd O O (UK (cs:=[_]) z0p O) ?_
 rintro _ q⟨b3,rfl,H,c,h⟩
 replace d:Sk w2 b2 [.bool false] 4:=d
 replace h:Sk q b3 [I 0] 45:=h
 have p:=(m.trans f).trans c
 have S:=m.size
 have U:=f.size
 have V:=c.size
 have J:=n.lt
 have M:=d.lt
 have u:=c.S4 (f.S4 n)
 have x:=c.S4 d
 refine S5<|It<|qN O<|qV (Sc U44 O O u O)<|Sr z1v O (ZQ (p.S4 hB)) ?_
 rintro _ q⟨rfl,rfl⟩
 refine TR O<|TK O<|S5<|Sb O<|SE O<|Sm O (TO Xh O O O x ξ) ?_
 rintro N⟨D,o⟩
 have y:=o.S4 h ω
 refine Sm O (TO z0p O O O y ξ) ?_
 rintro R⟨z,l⟩
 have A:=l.S4 D ω
 refine S5<|SF func15 (.cell1 U4 O O ((A).cell _) (.cell1 U45 O O ((z).cell _) .nil)) ?_
 exact⟨_,O,O,(p.An o (λi hi=>ω)).An l (λi hi=>ω)⟩
def z9c (hB:Sk w rr (z8N s gk tk root vb) 103):SG prog 16 [ptr rr 0] w λr w'=>r= .tuple #[S [],I 16]/\w'=w:=by
 refine py (e:=[(0,_)]) func16 O ntmps16 O O<|qN O<|To O<|SX O<|Sr z1v O (ZQ hB) ?_
 rintro _ w⟨rfl,rfl⟩
 refine TR O<|TK O<|S5<|Sb O<|SE O<|To O<|S3 func16 O ?_
 exact⟨_,O,O,O⟩
def zb1 (hB:Sk w rr (z8N s gk tk root vb) 103)(i:Int):SG prog 19 [ptr rr 0,I i] w λr w'=>r= .tuple #[Su 0,I 16]/\w'=w:=by
 refine py (e:=[(0,_),(1,_)]) func19 O ntmps19 O O<|qN O<|To O<|SX O<|Sr z1v O (ZQ hB) ?_
 rintro _ w⟨rfl,rfl⟩
 refine TR O<|TK O<|S5<|Sb O<|SE O<|To O<|S3 func19 O ?_
 exact⟨_,O,O,O⟩
def z6M (hB:Sk w rr (z8N s gk tk root vb) 103):SG prog 17 [ptr rr 0] w λr w'=>r=I 16/\w'=w:=by
 refine py (e:=[(0,_)]) func17 O ntmps17 O O<|TU O<|TZ<|SE O<|qV (T9 U44 O O)<|Sq O<|S9 O<|SE O<|SC O<|Sn ZR O<|qV (Sc U4 O O hB O)<|Sq O<|Sb O<|TU O ?_
 refine S3 func17 O ?_
 exact⟨_,O,O,O⟩
def z6F (hg:Wn G Q txt K X w)(hB:Sk w rr (z8N s G.k tk root vb) 103):SG prog 28 [ptr rr 0] w λr w'=>r=I (G.g.length:Int)/\w'=w:=by
 refine py (e:=[(0,_)]) func28 O ntmps28 O O<|TU O<|SX O<|qV (T9 U44 O O)<|Tt O<|SE O<|SC O<|Sn z0Q O<|qV (Sc U28 O O hB O)<|Sr z3K O (Xx hg) ?_
 rintro _ w⟨rfl,rfl⟩
 refine Sq O<|S3 func28 O ?_
 exact⟨_,O,O,O⟩
theorem z7y (h:UL (Xj T.k root) G T Q txt K X rr O_ a L s w)(H:s.done=true):SG prog 15 [ptr rr 0] w λr w'=>r= .tuple #[.bool false,I 5]/\Ext w w':=by
 obtain⟨vb,F⟩:=h.dm
 have E:=F.cells
 refine py (e:=[(0,_)]) func15 O ntmps15 O O<|qN O<|Sd O O (UD O (cs:=[ptr rr 0]) O) ?_
 rintro _ w1⟨b1,rfl,R,o,p⟩
 refine Sd O O (UK (cs:=[_]) Xh O) ?_
 rintro _ w2⟨b2,rfl,N,f,d⟩
 refine Sd O O (UK (cs:=[_]) z0p O) ?_
 rintro _ x⟨b3,rfl,S,c,l⟩
 replace d:Sk w2 b2 [.bool false] 4:=d
 replace l:Sk x b3 [I 0] 45:=l
 have m:=(o.trans f).trans c
 have g:=o.size
 have j:=f.size
 have t:=c.size
 have U:=p.lt
 have V:=d.lt
 have u:=c.S4 (f.S4 p)
 have y:=c.S4 d
 have A:=m.S4 E
 refine S5<|It<|qN O<|qV (Sc U44 O O u O)<|Sr z1v O (Vr (h.ext m)) ?_
 rintro _ x⟨rfl,rfl⟩
 refine TR O<|TK O<|S5<|So O (λc0=>?_)<|λc0=>?_
 ·exact absurd O c0
 ·refine S6<|It<|qN O<|qV (Sc U44 O O u O)<|SC O<|Sn TJ O<|Sn z0z O<|qV (Sc U4 O O A O)<|S5 ?_;rw[H];refine Sb O (qN O (Sm O (TO Xh O O O y ξ) ?_));rintro Z⟨M,q⟩;have z:=q.S4 l ω;refine Sm O (TO z0p O O O z ξ) ?_;rintro b⟨D,n⟩;have J:=n.S4 M ω;refine S5<|SF func15 (.cell1 U4 O O ((J).cell _) (.cell1 U45 O O ((D).cell _) .nil)) ?_;exact⟨_,O,O,(m.An q (λi hi=>ω)).An n (λi hi=>ω)⟩
theorem zas (h:UL (Xj T.k root) G T Q txt K X rr O_ a L s w)(n:s.cand.length=G.g.length)(i:Int):SG prog 19 [ptr rr 0,I i] w λr w'=>r=zb9 G.g.length s false i/\UL (Xj T.k root) G T Q txt K X rr O_ a L s w'/\Kp (λb=>¬xRu G T X b) w w':=by
 unfold zb9
 cases f:s.done with
 | false =>
   obtain⟨vb,d⟩:=h.dm;have c:=d.cells;rw[if_pos (.inr O)];refine py (e:=[(0,_),(1,_)]) func19 O ntmps19 O O<|qN O<|To O<|SX O<|Sr z1v O (Vr h) ?_;rintro _ w⟨rfl,rfl⟩;refine TR O<|TK O<|Tt O<|SX O<|SC O<|Sn TJ O<|Sn z0z O<|qV (Sc U4 O O c O)<|qV (Vn O) ?_;rw[f,show(!false)=true from rfl];refine S5<|Sb O<|qN O<|To O<|S3 func19 O ?_
   exact⟨_,O,O,h,Kp.refl _ _⟩
 | true =>
   rw[if_neg ξ];by_cases hi:i<0\/(G.g.length:Int)<=i
   ·rw[if_pos hi];obtain⟨vb,d⟩:=h.dm;have c:=d.cells;refine py (e:=[(0,_),(1,_)]) func19 O ntmps19 O O<|qN O<|To O<|SX O<|Sr z1v O (Vr h) ?_;rintro _ w⟨rfl,rfl⟩;refine TR O<|TK O<|Tt O<|SX O<|SC O<|Sn TJ O<|Sn z0z O<|qV (Sc U4 O O c O)<|qV (Vn O) ?_;rw[f,show(!true)=false from rfl];refine Tt O (SE O (SC O (Sn X5 O (qV (yia z1c ZZ O O ω) (qV (Sc z2W O O c O) (Sf O (Sr zjP O (za1 (d.vs 2 ψ).1 (i:=i) (by show i<0\/(s.cand.length:Int)<=i;rw[n];exact hi)) ?_)))))));rintro _ w⟨rfl,rfl⟩;refine Sf O<|Vk O<|To O<|SI.qb (e:=[(4,_),(5,_),(7,_),(8,_)]) ?_;refine SX O<|U7 O<|Tt O<|TV O<|To O<|S3 func19 O ?_;exact⟨_,O,O,h,Kp.refl _ _⟩
   ·rw[if_neg hi];obtain⟨v,rfl⟩:∃v:Nat,i=(v:Int):=⟨i.toNat,ω⟩;obtain⟨x,l⟩:∃x,s.cand[v]? =some x:=⟨_,y04 ω⟩;have m:VO s.cand (v:Int).toNat=x:=by show s.cand.getD v 4294967295=x;rw[y0C,l];rfl
    rw[m];exact zdK h f l
theorem z8Z (h:UL (Xj T.k root) G T Q txt K X rr O_ a L s w)(x:tx.length≠14+20*G.g.length)(y:tx.length<=4611686018427387904):SG prog 18 [ptr rr 0,S tx] w λr w'=>r=I 4/\Ext w w':=by
 have u:=h.m.n
 obtain⟨vb,p⟩:=h.dm
 have o:=p.cells
 refine py (e:=[(0,_),(1,_)]) func18 O ntmps18 O O<|qN O<|Sd O O (UD O (cs:=[S tx]) O) ?_
 rintro _ w1⟨b3,rfl,q,c,f⟩
 have d:=h.ext c
 have l:=c.S4 o
 refine Sq O<|SX O<|Sr z1v O (Vr d) ?_
 rintro _ w1⟨rfl,rfl⟩
 refine TR O<|TK O<|Tt O<|SE O<|SC O<|Sn z0Q O<|qV (Sc U28 O O l O)<|Sr z3K O (z7u d) ?_
 rintro _ w1⟨rfl,rfl⟩
 refine Sq O<|It<|qN O<|qV (Sc U9 O O f O)<|qV (Ys U9 O)<|Sf O<|qV (Zf O O ω)<|Tr O<|TK O<|Ue<|S5<|Sb O<|TU O<|S3 func18 O ?_
 exact⟨_,O,O,c⟩
end
abbrev g4:List (List Nat):=[[1,2],[3],[3],[]]
structure PdC (w1:World)(C:Nat->Prop)(g:List (List Nat))(GS TS:Value)(W:Wd)(Y Z:Nat->Prop)(root mb rr:Nat)(O_:Nat->Prop)(s:DmS)(cl:Bool)(k:Nat)(w:World):Prop where
 gg:W.G.g=g
 tg:W.T.g=Tb g
 n:g.length<=40
 hr:root<g.length
 pre:Pre W.Q.L W.a
 a:W.a<=146
 L:W.Q.L.length=200
 gs:W.G.st+W.G.len<=W.a
 ts:W.T.st+W.T.len<=W.a
 rf:RdX w1.heap.size GS TS g.length root mb s cl Z w
 zy:∀b,Z b->Y b/\C b/\(b≠W.G.k/\b≠W.G.x/\b≠W.T.k/\b≠W.T.x/\b≠1/\b≠2/\¬O_ b)
 top:∀b,b<w1.heap.size->Y b\/C b
 ob:O_ rr/\∀b,O_ b->C b
 j:DmJ g root s/\(s.T5=false->LkZ s)
 st:s.steps<=k
 k:k<=250
inductive PdR (w1:World) (C:Nat->Prop) (g:List (List Nat)) (GS TS:Value) (W:Wd) (Y Z:Nat->Prop) (root mb rr:Nat) (O_:Nat->Prop) (s:DmS) (k:Nat) (w:World):Bool->Prop
 |op (txt:Int->Sa) (K:Nat) (c:PdC w1 C g GS TS W Y Z root mb rr O_ s false k w) (hK:K<=1000+400*k) (m:UL (Xj W.T.k root) W.G W.T (W.Q.Tl (Th W.Q.L W.a 5 true)) txt K Y rr O_ W.a 5 s w):PdR w1 C g GS TS W Y Z root mb rr O_ s k w false
 |cl (txt:Int->Sa) (K:Nat) (Q':UB) (s0:DmS) (vb:Nat->Nat) (c:PdC w1 C g GS TS W Y Z root mb rr O_ s true k w) (hK:K<=1000+400*k) (hs:Q'.s=W.Q.s) (jz:Y rr) (m:Gw2 W.G W.T Q' txt K Y w) (hB:Sk w rr (z8N s0 W.G.k W.T.k root vb) 103):PdR w1 C g GS TS W Y Z root mb rr O_ s k w true
def pdD (Y Z O_:Nat->Prop)(b:Nat):Prop:=¬Y b\/O_ b\/Z b
def zdV (n:Nat)(s:DmS)(cl:Bool)(i:Int):∃(x:Nat)(e:Int),zb9 n s cl i= .tuple #[Su x,I e]:=by
 unfold zb9
 split
 ·exact⟨0,16,O⟩
 ·split
  ·exact⟨0,1,O⟩
  ·exact⟨_,0,O⟩
section
variable {W:Wd}{Y Z:Nat->Prop}{cl:Bool}
theorem PdC.ext (h:PdC w1 C g GS TS W Y Z root mb rr O_ s cl k w)(c:Ext w w'):PdC w1 C g GS TS W Y Z root mb rr O_ s cl k w':=
 ⟨h.gg,h.tg,h.n,h.hr,h.pre,h.a,h.L,h.gs,h.ts,h.rf.ext c,h.zy,h.top,h.ob,h.j,h.st,h.k⟩
theorem PdR.ext (h:PdR w1 C g GS TS W Y Z root mb rr O_ s k w cl)(d:Ext w w'):PdR w1 C g GS TS W Y Z root mb rr O_ s k w' cl:=by
 cases h with
 |op txt K c f m=>exact .op txt K (c.ext d) f (m.ext d)
 |cl txt K l s0 vb c f n o m hB=>exact .cl txt K l s0 vb (c.ext d) f n o (m.grow d (λj e=> .inl e) (λ_ e=>e)) (d.S4 hB)
theorem PdR.c (h:PdR w1 C g GS TS W Y Z root mb rr O_ s k w cl):PdC w1 C g GS TS W Y Z root mb rr O_ s cl k w:=by
 cases h with
 |op txt K c d m=>exact c
 |cl txt K e s0 vb c d f l m hB=>exact c
theorem PdC.run (h:PdC w1 C g GS TS W Y Z root mb rr O_ s cl k w)(d:Kp (λb=>¬Y b\/O_ b) w w'):RdX w1.heap.size GS TS g.length root mb s cl Z w':=
 h.rf.kp d (λb c e=>e.elim (λe=>e (h.zy b c).1) (h.zy b c).2.2.2.2.2.2.2.2)
theorem PdC.upd (h:PdC w1 C g GS TS W Y Z root mb rr O_ s cl k w)(hr:RdX w1.heap.size GS TS g.length root mb s' cl' Z w')(c:DmJ g root s'/\(s'.T5=false->LkZ s'))(e:s'.steps<=k+1)(d:k<250):PdC w1 C g GS TS W Y Z root mb rr O_ s' cl' (k+1) w':=
 ⟨h.gg,h.tg,h.n,h.hr,h.pre,h.a,h.L,h.gs,h.ts,hr,h.zy,h.top,h.ob,c,e,d⟩
def z8z (h:Kp (λb=>¬Y b\/O_ b) w w'):Kp (pdD Y Z O_) w w':=h.Se λb e=>e.imp id .inl
def zj1 (h:Kp Z w w'):Kp (pdD Y Z O_) w w':=h.Se λb e=> .inr (.inr e)
theorem vlD (h:DmJ g root s):s.cand.length=g.length:=h.ls.2.2.1
theorem ze0 {go:Nat}(X:Um g)(hC:∀b,w1.heap.size<=b->C b)(tD:GrK C w1 gb go g)(yu:GrK C w1 tb tO (Tb g))(aa:Kp C w1 w)(h:PdR w1 C g (.slice (some ⟨gb,go,none⟩) g.length gc) (.slice (some ⟨tb,tO,none⟩) g.length tc) W Y Z root mb rr O_ s k w cl)(y:k<250)(kind n fr fo:Int):SG prog 27 [ptr rr 0,ptr mb 0,.agg #[I kind,I n,I fr,I fo]] w λv w'=>v= .bool true/\(∃s' cl' Y' Z',PdR w1 C g (.slice (some ⟨gb,go,none⟩) g.length gc) (.slice (some ⟨tb,tO,none⟩) g.length tc) W Y' Z' root mb rr O_ s' (k+1) w' cl'/\(∀b,Y b->Y' b)/\(∀b,Z' b->Z b\/w.heap.size<=b)/\(∀b,Y' b->Y b\/w.heap.size<=b))/\Kp (pdD Y Z O_) w w':=by
 refine py (e:=[(0,_),(1,_),(2,_)]) func27 O ntmps27 O O<|qN O<|Sd O O (UD O (cs:=[I kind,I n,I fr,I fo]) O) ?_
 rintro _ z⟨b5,rfl,gC,d,U⟩
 have h3:=h.ext d
 have aT:Kp C w1 z:=aa.trans d.kp
 have du:=h.c.n
 have a3:=d.size
 have a1:=aa.size
 have kZ:∀u v,u∈Si (Tb g) v↔v∈Si g u:=λu v=>z30 X
 refine Sq O<|It<|qN O<|Sn zb2 O<|qV (Sc U3 O O U O)<|S5<|S7<|qN O ?_
 by_cases k0:kind=0
 ·refine U7 O<|Ue<|Sq O<|Sb O<|SE O ?_
  cases h3 with
  | op txt K c F m =>
    have r:=c.gg;have sX:=c.tg;have E:=c.st;have N:=c.j.1;by_cases P:s.done=false
    ·have s1:=z8b m (by rw[r];exact N) (by rw[r];exact sX) (by rw[r];exact c.hr) ω P ω;rw[r,sX] at s1;refine Sr zhQ O s1 ?_;rintro _ f⟨rfl,⟨o,K4,S,Jj,kW⟩,l⟩;have a4:=l.size;have f4:=c.run l
     have cW:Kp C w1 f:=aT.An l λb e=>by
      rcases y0a b w1.heap.size with h| h
      ·rcases e with e| e
       ·exact .inr ((c.top b h).resolve_left e)
       ·exact .inr (c.ob.2 b e)
      ·exact .inl h
     refine Sf O (Vk O (Vj O (TR O (Sr zkq O (zb6 X tD yu cW f4 N c.j.2 P c.hr ω (λb e=>(c.zy b e).2.1)) ?_))));rintro _ B⟨rfl,f5,D,L3⟩;have a5:=D.size;refine Sf O<|Vk O<|Vj O<|Up O<|Sz O<|qV (zgl O O U4) ?_;rw[beq_self_eq_true];refine Sz O<|Sf O<|U7 O<|Ue<|Uj O<|Sq O<|SI.qb (e:=[(0,_),(1,_),(6,_)]) ?_;refine S3 func27 O ?_;have cx:=S.far;have m5:=S.step (Y:=λb=>Y b\/(f.heap.size<=b/\b<B.heap.size)) D (λj e=>⟨(c.zy j e).1,(c.zy j e).2.2⟩) (λj e=> .inl e) (λj e=>e);have QA:=N.step X c.hr kZ P
     have c5:PdC w1 C g (.slice (some ⟨gb,go,none⟩) g.length gc) (.slice (some ⟨tb,tO,none⟩) g.length tc) W (λb=>Y b\/(f.heap.size<=b/\b<B.heap.size)) (λb=>Z b\/(f.heap.size<=b/\b<B.heap.size)) root mb rr O_ (s.step g (Tb g) root) false (k+1) B:=
      ⟨c.gg,c.tg,c.n,c.hr,c.pre,c.a,c.L,c.gs,c.ts,f5,λb e=>by
       rcases e with e| e
       ·exact⟨.inl (c.zy b e).1,(c.zy b e).2⟩
       ·exact⟨.inr e,hC b (by have:=cW.size;omega),cx b e.1⟩,λb e=>(c.top b e).imp .inl id,c.ob,⟨QA,L3⟩,by rw[za0];omega,y⟩
     exact⟨_,O,O,⟨_,false,_,_,.op o K4 c5 ω m5,λb e=> .inl e,λb e=>e.imp id λe=>ω,λb e=>e.imp id λe=>ω⟩,(d.kp.trans (z8z l)).trans (zj1 D)⟩
    ·have Mg:s.done=true:=by simpa using P
     refine Sr zhQ O (z7y m Mg) ?_;rintro _ f⟨rfl,q⟩;refine Sf O<|Vk O<|Vj O<|TR O<|Sr zkq O (z97 (c.rf.ext q) Mg) ?_;rintro _ f⟨rfl,rfl⟩;refine Sf O<|Vk O<|Vj O<|Up O<|Sz O<|qV (zgl O O U4) ?_;rw[beq_self_eq_true];refine Sz O<|Sf O<|U7 O<|Ue<|Uj O<|Sq O<|SI.qb (e:=[(0,_),(1,_),(6,_)]) ?_;refine S3 func27 O ?_
     exact⟨_,O,O,⟨s,false,Y,Z,.op txt K (c.upd (c.rf.ext q) c.j ω y) ω (m.ext q),λb e=>e,λb e=> .inl e,λb e=> .inl e⟩,d.kp.trans q.kp⟩
  | cl txt K A s0 vb c F H J m hB =>
    have E:=c.st;refine Sr zhQ O (z99 hB) ?_;rintro _ f⟨rfl,q⟩;refine Sf O<|Vk O<|Vj O<|TR O<|Sr zkq O (z8A (c.rf.ext q)) ?_;rintro _ f⟨rfl,rfl⟩;refine Sf O<|Vk O<|Vj O<|Up O<|Sz O<|qV (zgl O O U4) ?_;rw[beq_self_eq_true];refine Sz O<|Sf O<|U7 O<|Ue<|Uj O<|Sq O<|SI.qb (e:=[(0,_),(1,_),(6,_)]) ?_;refine S3 func27 O ?_;exact⟨_,O,O,⟨s,true,Y,Z,.cl txt K A s0 vb (c.upd (c.rf.ext q) c.j ω y) ω H J (m.grow q (λj e=> .inl e) (λ_ e=>e)) (q.S4 hB),λb e=>e,λb e=> .inl e,λb e=> .inl e⟩,d.kp.trans q.kp⟩
 ·refine U7 O<|T0<|Sq O<|S9 O<|qN O ?_;by_cases k1:kind=1
  ·refine U7 O<|Ue<|Sq O<|Sb O<|SE O<|Sn z9J O<|qV (Sc U3 O O U O) ?_
   cases h with
   | op txt K c0 F R =>
     have c:=c0.ext d;have E:=c.st;have l5:=U.lt;have r:=c.gg;have m:=R.grow d (Y:=λj=>Y j\/j=b5) (λj e=>e.imp id λe=>ω) (λj e=> .inl e);have hv:=zas m (by rw[r];exact vlD c.j.1) n;rw[r] at hv;obtain⟨x,ex,zI⟩:=zdV g.length s false n;rw[zI] at hv
     have aN:∀x∈s.cand,x<4294967296:=λx hx=>by
      obtain⟨vb,hV⟩:=R.dm;obtain⟨p,hp⟩:=y2q hx;have:=((hV.vs 2 ψ).1.zfZ hp).1;exact y2y this ψ
     refine Sr zjG O hv ?_;rintro _ f⟨rfl,S,l⟩;have t:Kp (λb=>¬Y b\/O_ b) z f:=l.Se λb e=> .inl λV=>e (.inl (.inl (.inl V)));have f4:=c.run t;have fA:=l.S4 U (λe=>e (.inl (.inl (.inr O))));have M:=z5M f4 n ω (λ_=>aN);rw[zI] at M;refine Sf O<|Vk O<|Vj O<|TR O<|Sn z9J O<|qV (Sc U3 O O fA O)<|Sr znW O M ?_;rintro _ f⟨rfl,rfl⟩;refine Sf O<|Vk O<|To O<|SI.qb (e:=[(0,_),(1,_),(6,_),(11,_),(12,_),(13,_),(14,_)]) ?_;refine TV O<|U7 O<|Ue<|Sz O<|Sf O<|U7 O<|Ue<|Uj O<|Sq O<|S3 func27 O ?_
     exact⟨_,O,O,⟨s,false,Y,Z,.op txt K (c.upd f4 c.j ω y) ω (S.less (λj e=> .inl e) R.xk R.xr),λb e=>e,λb e=> .inl e,λb e=> .inl e⟩,d.kp.trans (z8z t)⟩
   | cl txt K A s0 vb c0 F H J R j9 =>
     have c:=c0.ext d;have E:=c.st;have M:=z5M (i:=n) c.rf ω (λe=>by cases e);unfold zb9 at M;rw[if_pos (.inl O)] at M;refine Sr zjG O (zb1 (d.S4 j9) n) ?_;rintro _ z⟨rfl,rfl⟩;refine Sf O<|Vk O<|Vj O<|TR O<|Sn z9J O<|qV (Sc U3 O O U O)<|Sr znW O M ?_;rintro _ z⟨rfl,rfl⟩;refine Sf O<|Vk O<|To O<|SI.qb (e:=[(0,_),(1,_),(6,_),(11,_),(12,_),(13,_),(14,_)]) ?_;refine TV O<|U7 O<|Ue<|Sz O<|Sf O<|U7 O<|Ue<|Uj O<|Sq O<|S3 func27 O ?_;exact⟨_,O,O,⟨s,true,Y,Z,.cl txt K A s0 vb (c.upd c.rf c.j ω y) ω H J (R.grow d (λj e=> .inl e) (λ_ e=>e)) (d.S4 j9),λb e=>e,λb e=> .inl e,λb e=> .inl e⟩,d.kp⟩
  ·refine U7 O<|T0<|Sq O<|S9 O<|qN O ?_;by_cases k5:kind=5
   ·refine U7 O<|Ue ?_
    cases h3 with
    | op txt K c F m =>
      have E:=c.st;have yl:=c.pre.a2;have Dl:=c.a;have hL:=c.L;have E6:(Th W.Q.L W.a 5 true).length=W.Q.L.length:=TE ω;have fd:=z6y m yl (by show W.a+5<=(Th W.Q.L W.a 5 true).length;omega) (λi e1 V=>by show(Th W.Q.L W.a 5 true)[i]? =some true;rw[VA ω,if_pos ⟨e1,V⟩]);refine Sq O<|Sb O<|SE O<|Sr zhA O fd ?_;rintro _ f⟨rfl,o,g4,kW,l,a0,aG⟩;have f4:=c.run l;obtain⟨G,zu⟩:∃G,(W.Q.Tl (Th W.Q.L W.a 5 true)).Tl (Th (W.Q.Tl (Th W.Q.L W.a 5 true)).L W.a 5 false)=G:=⟨_,O⟩;have ot:G.s=W.Q.s:=by rw[<-zu];rfl
      rw[zu] at g4;refine Sf O (Sr zld O (z7Q f4 (by have:=l.size;omega)) ?_);rintro _ B⟨rfl,f5,D⟩;refine U7 O<|Ue<|Sq O<|S3 func27 O ?_
      exact⟨_,O,O,⟨s,true,Y,Z,.cl o K G s a0 (c.upd f5 c.j ω y) ω ot (m.xr _ c.ob.1) (g4.own D λj e=>⟨(c.zy j e).1,(c.zy j e).2.2.1,(c.zy j e).2.2.2.1,(c.zy j e).2.2.2.2.1,(c.zy j e).2.2.2.2.2.1,(c.zy j e).2.2.2.2.2.2.1,(c.zy j e).2.2.2.2.2.2.2.1⟩) (D.S4 aG (λe=>(c.zy _ e).2.2.2.2.2.2.2.2 c.ob.1)),λb e=>e,λb e=> .inl e,λb e=> .inl e⟩,(d.kp.trans (z8z l)).trans (zj1 D)⟩
    | cl txt K A s0 vb c F H J m hB =>
      have E:=c.st;refine Sq O<|Sb O<|SE O<|Sr zhA O (z6M hB) ?_;rintro _ z⟨rfl,rfl⟩;refine Sf O<|Sr zld O (z7d c.rf) ?_;rintro _ z⟨rfl,rfl⟩;refine U7 O<|Ue<|Sq O<|S3 func27 O ?_;exact⟨_,O,O,⟨s,true,Y,Z,.cl txt K A s0 vb (c.upd c.rf c.j ω y) ω H J m hB,λb e=>e,λb e=> .inl e,λb e=> .inl e⟩,d.kp⟩
   ·refine U7 O<|T0 ?_
    cases h3 with
    | op txt K c F m =>
      have E:=c.st;have r:=c.gg;have N:=c.j.1;refine Sq O (VP O (S2 (SE O (Sr zh6 O (z4u m (by rw[r];exact N.vl) (N.nl du ω)) ?_))));rintro _ f⟨rfl,-,S,l⟩;have t:Kp (λb=>¬Y b\/O_ b) z f:=l.Se λb e=> .inl λV=>e (.inl (.inl V));have f4:=c.run t;obtain⟨bn,cn,bl,bc,cc,vs,vo,T,bI⟩:=f4;have cM:=T.run;refine Sf O<|Vk O<|Vj O<|TR O<|U7 O<|Ue<|Sf O<|SC O<|Sn VM O<|qV (Sc U4 O O cM O)<|qV (Vn O) ?_;rw[show(!false)=true from rfl];refine qV (zgl O O U4) ?_;rw[show((true:Bool)==true)=true from rfl];refine Sz O<|U7 O<|Ue<|Sf O<|Ua<|Uj O<|Uj O<|Sq O<|SI.qb (e:=[(6,_)]) ?_;refine S3 func27 O ?_
      exact⟨_,O,O,⟨s,false,Y,Z,.op txt K (c.upd ⟨bn,cn,bl,bc,cc,vs,vo,T,bI⟩ c.j ω y) ω S,λb e=>e,λb e=> .inl e,λb e=> .inl e⟩,d.kp.trans (z8z t)⟩
    | cl txt K A s0 vb c F H J m hB =>
      have E:=c.st;obtain⟨bn,cn,bl,bc,cc,vs,vo,T,bI⟩:=id c.rf;have cM:=T.run;refine Sq O<|VP O<|S2<|SE O<|Sr zh6 O (z9c hB) ?_;rintro _ z⟨rfl,rfl⟩;refine Sf O<|Vk O<|Vj O<|TR O<|U7 O<|T0<|Sf O<|SC O<|Sn VM O<|qV (Sc U4 O O cM O)<|qV (Vn O) ?_;rw[show(!true)=false from rfl];refine qV (zgl O O U4) ?_;rw[show((false:Bool)==false)=true from rfl];refine Sz O<|U7 O<|T0<|Sz O<|U7 O<|Ue<|Td O<|Uj O<|Sq O<|SI.qb (e:=[(6,_)]) ?_;refine S3 func27 O ?_;exact⟨_,O,O,⟨s,true,Y,Z,.cl txt K A s0 vb (c.upd c.rf c.j ω y) ω H J m hB,λb e=>e,λb e=> .inl e,λb e=> .inl e⟩,d.kp⟩
end
section
variable {W:Wd}{Y Z:Nat->Prop}
theorem zbz {go:Nat}(aq:Um g)(aQ:1<=g.length)(hC:∀b,w1.heap.size<=b->C b)(Kh:∀{w':World},Kp C w1 w'->GrM w' (.slice (some ⟨gb,go,none⟩) g.length gc) g)(aa:Kp C w1 w)(hG:∀{w':World},Kp C w1 w'->Sk w' 1 (W5 .gamma) 314)(hU:∀{w':World},Kp C w1 w'->Sk w' 2 (W5 .unary) 314)(h:PdR w1 C g (.slice (some ⟨gb,go,none⟩) g.length gc) TS W Y Z root mb rr O_ s k w false)(fZ:k<250)(kind n fr fo:Int)(mB:JIq fr)(Cw:JIq fo):
  SG prog 26 [.agg W.v.toArray,ptr rr 0,.slice (some ⟨gb,go,none⟩) g.length gc,I (root:Int),.agg #[I kind,I n,I fr,I fo]] w λv w'=>∃(R:Wd)(Y':Nat->Prop) (a0:Nat) (y:Nat->Prop),v= .tuple #[.agg R.v.toArray,ptr a0 0,.bool true]/\PdR w1 C g (.slice (some ⟨gb,go,none⟩) g.length gc) TS R Y' Z root mb a0 y s (k+1) w' false/\(∀b,b<w.heap.size->Y' b)/\(∀b,y b->w.heap.size<=b)/\(w.heap.size<=R.G.k/\w.heap.size<=R.G.x/\w.heap.size<=R.T.k/\w.heap.size<=R.T.x)/\Kp (λb=>¬Y b\/O_ b) w w':=by
 cases h with
 |op txt K c hK m=>
 have dJ:=c.st
 have du:=c.n
 have av:=c.gg
 have sX:=c.tg
 have hL:=c.L
 have Dl:=c.a
 have df:=c.pre
 have yl:=df.a2
 have S:=c.j.1
 have z1:=aa.size
 have lJ:=c.hr
 have X:∀b,Y b->b<w.heap.size:=λb l=>m.lt b (.inl (.inl l))
 have ad:=X _ m.xk.2.2.2.2.1
 have ae:=X _ m.xk.2.2.2.2.2
 refine py (e:=[(0,_),(1,_),(2,_),(3,_),(4,_)]) func26 O ntmps26 O O<|qN O<|Sd O O (UD O (cs:=W.v) O) ?_
 rintro _ wa⟨b5,rfl,gC,xN,aF⟩
 refine Sd O O (UD O (cs:=[I kind,I n,I fr,I fo]) O) ?_
 rintro _ wb⟨b9,rfl,oU,E0,cI⟩
 refine Sd O O (UK (cs:=[_,_,_,_,_]) z0s O) ?_
 rintro _ w4⟨a6,rfl,zL,aA,eP⟩
 have bO:=(xN.trans E0).trans aA
 have za:=xN.size
 have zb:=E0.size
 have z4:=aA.size
 have l5:=aF.lt
 have l9:=cI.lt
 have P:=eP.lt
 have fA:Sk w4 b5 [ptr W.d 0,ptr W.Q.s 0,ptr W.G.k 0,ptr W.T.k 0,I ((200-W.a:Nat):Int)] 30:=(E0.trans aA).S4 aF
 have kq:=aA.S4 cI
 obtain⟨p,Ki⟩:∃p:Nat->Prop,(λj=>Y j\/(w.heap.size<=j/\j<w4.heap.size))=p:=⟨_,O⟩
 have yv:∀j,Y j->p j:=λj e=>by rw[<-Ki];exact .inl e
 have U:∀j,w.heap.size<=j->j<w4.heap.size->p j:=λj e F=>by rw[<-Ki];exact .inr ⟨e,F⟩
 have m4:UL (Xj W.T.k root) W.G W.T (W.Q.Tl (Th W.Q.L W.a 5 true)) txt K p rr O_ W.a 5 s w4:=m.grow bO (λj e=>by rw[<-Ki] at e;exact e) yv
 have qC:∀b,O_ b->b<w.heap.size:=λb l=>X b (m.xr b l)
 have zw:∀{b},p b->¬¬xRu W.G W.T p b:=λl e=>e (.inl (.inl l))
 refine Vj O<|TR O<|Sr zh6 O (z4u m4 (by rw[av];exact S.vl) (S.nl du ω)) ?_
 rintro _ w5⟨rfl,fO,m5,t⟩
 have Ct:(dmT s).length=14+5*(4*g.length):=z29 S.vl 5 (y07 _)
 have pI:=t.S4 fA (zw (U _ ω ω))
 have kd:=t.S4 kq (zw (U _ ω ω))
 have Dn:=t.S4 eP (zw (U _ ω P))
 have Kj:Kp (λb=>¬Y b\/O_ b) w w5:=bO.kp.trans (t.Se λb e=> .inl λF=>e (.inl (.inl (yv _ F))))
 have z5:=t.size
 refine Sf O<|Vk O<|Vj O<|Up O<|Sz O<|qV (Zq O O (by rw[Ct];show 14+5*(4*g.length)+1<=_;omega)) ?_
 refine Sr zjI O (z8Z m5 (by rw[y01,Ct,av];show 14+5*(4*g.length)+1≠_;omega) (by rw[y01,Ct];show 14+5*(4*g.length)+1<=_;omega)) ?_
 rintro _ w6⟨rfl,aM⟩
 have z6:=aM.size
 have m6:=m5.ext aM
 have Kk:W.a+5<=W.Q.L.length:=ω
 have E6:(Th W.Q.L W.a 5 true).length=W.Q.L.length:=TE Kk
 have fd:=z9G m6 yl (by show W.a+5<=(Th W.Q.L W.a 5 true).length;omega) (λi e1 F=>by show(Th W.Q.L W.a 5 true)[i]? =some true;rw[VA Kk,if_pos ⟨e1,F⟩])
 rw[show(W.Q.Tl (Th W.Q.L W.a 5 true)).Tl (Th (W.Q.Tl (Th W.Q.L W.a 5 true)).L W.a 5 false)=W.Q by rw[show(W.Q.Tl (Th W.Q.L W.a 5 true)).L=Th W.Q.L W.a 5 true from rfl,zem df Kk];rfl] at fd
 refine TR O<|Sr zhA O fd ?_
 rintro _ D⟨rfl,a1,g7,Ew,ay⟩
 have z7:=ay.size
 have lX:Kp (λb=>¬p b\/O_ b) w5 D:=aM.kp.trans ay
 have Kl:∀{b},p b->¬O_ b->¬(¬p b\/O_ b):=λh1 h2 e=>e.elim (λe=>e h1) h2
 have Do:∀b,w.heap.size<=b->¬O_ b:=λb l e=>by have:=qC b e;omega
 have j7:=lX.S4 pI (Kl (U _ ω ω) (Do _ ω))
 have Dp:=lX.S4 kd (Kl (U _ ω ω) (Do _ ω))
 have Dq:=lX.S4 Dn (Kl (U _ ω P) (Do _ ω))
 have yw:Kp (λb=>¬Y b\/O_ b) w D:=Kj.trans (lX.Se λb e=>e.imp (λe F=>e (yv _ F)) id)
 have br:Kp C w1 D:=aa.An yw λb e=>by
  rcases y0a b w1.heap.size with h| h
  ·rcases e with e| e
   ·exact .inr ((c.top b h).resolve_left e)
   ·exact .inr (c.ob.2 b e)
  ·exact .inl h
 have f7:=c.run yw
 refine Sq O<|SI.qb (e:=[(2,_),(3,_),(5,_),(9,_),(10,_),(11,_),(12,_),(13,_),(14,_),(15,_),(16,_)]) ?_
 refine SE O<|Sn zjM O<|qV (Sc U3 O O Dp O)<|Sn zjz O<|qV (Sc U3 O O Dp O)<|Sr zkX O (z8F aq aQ du (Kh br) (hG br) (hU br) fr fo mB Cw) ?_
 rintro _ w8⟨V,XV,rfl,r,dw,QB,v1,v2,v3,v4⟩
 have z8:=dw.size
 refine Sf O<|Vk O<|Sd O O (UK (cs:=[_,_,_,_,_]) z0s O) ?_
 rintro _ wt⟨E,rfl,QC,xA,tQ⟩
 have zt:=xA.size
 refine Sm O (Ta (news:=V.v) z0s O O O O tQ ξ) ?_
 rintro N⟨qD,aK⟩
 have Dr:Sk N E [ptr V.d 0,ptr V.Q.s 0,ptr V.G.k 0,ptr V.T.k 0,I ((200-V.a:Nat):Int)] 30:=qD
 have z9:=aK.size
 have ac:=tQ.lt
 have Dt:Ext w8 N:=xA.An aK λb e=>ω
 have fD:Ext D N:=dw.trans Dt
 have QD:=r.a
 have QE:=r.L
 have RZ:=r.K
 have u:=r.gg
 have Mh:=r.tg
 have Mi:=r.pre
 have QF:=r.gs
 have Km:=r.ts
 obtain⟨q,gx⟩:∃q:Nat->Prop,(λb=>V.x XV b\/b=E)=q:=⟨_,O⟩
 have A:∀j,j<D.heap.size->q j:=λj hj=>by rw[<-gx];exact .inl (QB j hj)
 have Du:q E:=by rw[<-gx];exact .inr O
 have a7:Gw2 V.G V.T V.Q V.txt V.K q N:=r.gw2.grow Dt (λj e=>by rw[<-gx] at e;exact e.imp id λe=>ω) (λj e=>by rw[<-gx];exact .inl e)
 have rK:=fD.S4 j7
 have Dv:=fD.S4 Dq
 have g9:=(g7.grow fD (λj e=> .inl e) (λ_ e=>e):Gw2 W.G W.T W.Q a1 K p N)
 have f:=Ext.Sv N
 have dK:=(g9.sp.ext' f).room df ω
 rw[hL] at dK
 refine Sq O<|It<|It<|Ux (λw'=>Ext N w') O<|St 0 O O f<|S8 1 O (yne O O) f<|WW<|St 2 O O f<|St 3 O O f<|S8 4 O (yne O O) f<|WW<|S8 5 O (Xg O O) f<|St 6 O O f<|St 7 O O f ?_
 refine S8 8 O (yne O O) f<|WW<|S8 9 O (Xg O O) f<|St 10 O O f<|St 11 O O f<|S8 12 O (Vn O) f ?_
 rw[show(!true)=false from rfl]
 refine S8 13 O (Xg O O) f<|St 14 O O f<|S8 15 O (SN ZC O) f<|qT 16 O (λ_ h=>Sc Zh O O (h.S4 rK) O) f<|S8 19 O (SN zfl O) f<|qT 20 O (λ_ h=>Sc U3 O O (h.S4 rK) O) f<|VF 17 O zny O ((g9.sp.ext' f).map) ?_
 rintro _ _⟨rfl,rfl⟩
 refine⟨f,?_⟩
 refine VF 18 O zk1 O dK ?_
 rintro _ M⟨rfl,aX⟩
 refine⟨f.trans aX,?_⟩
 refine S8 21 O (yne O O) (f.trans aX)<|WW ?_
 have B:=f.trans aX
 have ag:=B.size
 have z:Gw2 V.G V.T V.Q V.txt V.K q M:=a7.grow B (λj e=> .inl e) (λ_ e=>e)
 have jA:=B.S4 Dr
 have yx:=B.S4 Dv
 refine S8 22 O (Xg O O) (f.trans aX)<|qE<|SI.qb (e:=[(3,_),(10,_),(11,_),(12,_),(13,_),(17,_),(63,_)]) ?_
 refine VP O<|qN O<|Sn ZC O<|qV (Sc Zh O O jA O)<|Sn zbe O<|qV (Sc U28 O O jA O)<|Sn z9K O<|qV (Sc U28 O O jA O)<|Sf O<|Sr zkr O (z6n z ω (by rw[u];omega) (by rw[u];exact aq) (by rw[u];exact Mh) Mi ω Km ω (by rw[u];exact lJ)) ?_
 rintro _ a3⟨r',y,ab,a5,rfl,qF,QG,H,QH,bu⟩
 rw[u] at H
 have ah:=bu.size
 have Dw:∀b,q b->b<M.heap.size:=λb l=>z.lt b (.inl (.inl l))
 have yz:=bu.S4 jA (λe=>e Du)
 have yA:=bu.S4 yx (λe=>e (A _ ω))
 have o:=Ext.Sv a3
 have u3:=zbC (H.ext o) (by rw[u];exact(DmJ.new aq lJ).vl) (by rw[u];exact S.vl) fO (S.nl du ω) (by rw[u];exact S.fh) ω
 have yh:∀{b},q b->¬(¬(q b\/y b)\/y b):=λl e=>e.elim (λe=>e (.inl l)) (λe=>by have:=qF _ e;have:=Dw _ l;omega)
 refine Sf O<|Vk O<|To O<|It<|Sx [10] (λw'=>Kp (λb=>¬(q b\/y b)\/y b) a3 w') y00 O<|Tz (i:=1) O y00 O O (λ_=>ymv O) o.kp<|Te 2 O O o.kp<|SB 3 O (yeq O O) o.kp<|Te 4 O O o.kp<|qL 0 O (λ_ hS=>SO (news:=V.v) U30 O z0s O ((hS.S4 yz (yh Du)).cells (n:=5) O) O) o.kp<|Te 5 O O o.kp<|Te 6 O O o.kp<|U6 (i:=7) y00<|Uu (i:=7) O O O (yc zjI O) u3 ?_
 rintro _ af⟨rfl,⟨J,a8,QI⟩,bj⟩
 refine⟨o.kp.trans bj,?_⟩
 have qG:=o.kp.trans bj
 have yB:=qG.S4 yA (yh (A _ ω))
 refine Tz (i:=8) O y00 O O (λ_=>yeq O O) (o.kp.trans bj)<|Tz (i:=9) O y00 O O (λ_=>YD O O) (o.kp.trans bj)<|Wg [10]<|qO 10<|SY (i:=10) O O (Ta (news:=V.v) z0s O O O O yB ξ) ?_
 rintro a4⟨bM,di⟩
 refine⟨trivial,?_⟩
 have Dx:Sk a4 a6 V.v 30:=bM
 have a9:=a8.own di λj e=>by
  subst e;refine⟨.inl (A _ ω),ω,ω,ω,ω,ω,ω,λe=>?_⟩;have:=qF _ e;omega
 have qH:Kp (λb=>w.heap.size<=b) D a4:=((fD.trans B).kp.An bu λb e=>by
   rcases y0a b D.heap.size with h| h
   ·exact absurd (A b h) e
   ·exact .inl h) |>.An qG (λb e=>by
   rcases y0a b D.heap.size with h| h
   ·exact absurd e (yh (A b h))
   ·exact .inl h) |>.An di (λb e=> .inr ω)
 have O8:w1.heap.size<=M.heap.size:=ω
 have f13:=f7.kp qH (λb l e=>by have:=X b (c.zy b l).1;omega)
 have aj:=qH.size
 refine S8 11 O (UU O) trivial<|S8 12 O (UU O) trivial<|qE<|SI.qb (e:=[(10,_),(11,_),(12,_)]) ?_
 refine SF func26 (.cell U30 O z0s O (Sk.cells (n:=5) Dx (news:=[_,_,_,_,_]) O) O (.tmp O (.tmp O .nil))) (⟨_,O,V,_,r',y,O,.op J (a5+5) ⟨u,Mh,du,lJ,Mi,QD,QE,ω,ω,f13,λb l=>?_,λb l=> .inl (.inl (A b ω)),⟨?_,λb l=>hC b (by have:=qF b l;omega)⟩,c.j,ω,fZ⟩ ω a9,λb l=> .inl (A b ω),λb l=>by have:=qF b l;omega,⟨ω,ω,ω,ω⟩,?_⟩)
 ·have bS:=X b (c.zy b l).1;obtain⟨y1,y2,y3,y4,y5,y6,y7,y8,y9⟩:=c.zy b l;exact⟨.inl (A b ω),y2,ω,ω,ω,ω,y7,y8,λe=>by have:=qF b e;omega⟩
 ·exact H.m.ro
 ·exact yw.An qH λb e=> .inl e
end
def XU (w:World):SG prog 45 [.pointer none] w λr w'=>r=I 2/\w'=w:=by
 refine py (e:=[(0,_)]) func45 O ntmps45 O O<|TU O<|TZ<|SE O<|qV (T9 U44 O O)<|Sq O<|Sb O<|TU O<|S3 func45 O ?_
 exact⟨_,O,O,O⟩
theorem z7I (w:World):SG prog 15 [.pointer none] w λr w'=>r= .tuple #[.bool false,I 2]/\Ext w w':=by
 refine py (e:=[(0,_)]) func15 O ntmps15 O O<|qN O<|Sd O O (UD O (cs:=[.pointer none]) O) ?_
 rintro _ w1⟨b1,rfl,E,m,n⟩
 refine Sd O O (UK (cs:=[_]) Xh O) ?_
 rintro _ w2⟨b2,rfl,D,f,d⟩
 refine Sd O O (UK (cs:=[_]) z0p O) ?_
 rintro _ p⟨b3,rfl,F,c,h⟩
 replace d:Sk w2 b2 [.bool false] 4:=d
 replace h:Sk p b3 [I 0] 45:=h
 have q:=(m.trans f).trans c
 have R:=m.size
 have S:=f.size
 have U:=c.size
 have H:=n.lt
 have J:=d.lt
 have u:=c.S4 (f.S4 n)
 have v:=c.S4 d
 refine S5<|It<|qN O<|qV (Sc U44 O O u O)<|Sr z1v O (XU _) ?_
 rintro _ p⟨rfl,rfl⟩
 refine TR O<|TK O<|S5<|Sb O<|SE O<|Sm O (TO Xh O O O v ξ) ?_
 rintro M⟨A,o⟩
 have x:=o.S4 h ω
 refine Sm O (TO z0p O O O x ξ) ?_
 rintro N⟨y,l⟩
 have z:=l.S4 A ω
 refine S5<|SF func15 (.cell1 U4 O O ((z).cell _) (.cell1 U45 O O ((y).cell _) .nil)) ?_
 exact⟨_,O,O,(q.An o (λi hi=>ω)).An l (λi hi=>ω)⟩
def z7A (w:World):SG prog 16 [.pointer none] w λr w'=>r= .tuple #[S [],I 2]/\w'=w:=by
 refine py (e:=[(0,_)]) func16 O ntmps16 O O<|qN O<|To O<|SX O<|Sr z1v O (XU _) ?_
 rintro _ w⟨rfl,rfl⟩
 refine TR O<|TK O<|S5<|Sb O<|SE O<|To O<|S3 func16 O ?_
 exact⟨_,O,O,O⟩
def z9U (w:World)(i:Int):SG prog 19 [.pointer none,I i] w λr w'=>r= .tuple #[Su 0,I 2]/\w'=w:=by
 refine py (e:=[(0,_),(1,_)]) func19 O ntmps19 O O<|qN O<|To O<|SX O<|Sr z1v O (XU _) ?_
 rintro _ w⟨rfl,rfl⟩
 refine TR O<|TK O<|S5<|Sb O<|SE O<|To O<|S3 func19 O ?_
 exact⟨_,O,O,O⟩
theorem z8X (w:World)(tx:Sa):SG prog 18 [.pointer none,S tx] w λr w'=>r=I 2/\Ext w w':=by
 refine py (e:=[(0,_),(1,_)]) func18 O ntmps18 O O<|qN O<|Sd O O (UD O (cs:=[S tx]) O) ?_
 rintro _ w1⟨b3,rfl,f,c,d⟩
 refine Sq O<|SX O<|Sr z1v O (XU _) ?_
 rintro _ w1⟨rfl,rfl⟩
 refine TR O<|TK O<|S5<|Sb O<|SE O<|Sq O<|S3 func18 O ?_
 exact⟨_,O,O,c⟩
def z7f (w:World):SG prog 17 [.pointer none] w λr w'=>r=I 2/\w'=w:=by
 refine py (e:=[(0,_)]) func17 O ntmps17 O O<|TU O<|TZ<|SE O<|qV (T9 U44 O O)<|Sq O<|Sb O<|TU O<|S3 func17 O ?_
 exact⟨_,O,O,O⟩
def z77 (w:World):SG prog 20 [.pointer none] w λr w'=>r=I 0/\w'=w:=by
 refine py (e:=[(0,_)]) func20 O ntmps20 O O<|TU O<|SX O<|qV (T9 U44 O O)<|S5<|Sb O<|TU O<|S3 func20 O ?_
 exact⟨_,O,O,O⟩
def z7i (w:World):SG prog 28 [.pointer none] w λr w'=>r=I 0/\w'=w:=by
 refine py (e:=[(0,_)]) func28 O ntmps28 O O<|TU O<|SX O<|qV (T9 U44 O O)<|S5<|Sb O<|TU O<|S3 func28 O ?_
 exact⟨_,O,O,O⟩
theorem z5D (w:World):SG prog 23 [.pointer none] w λv w'=>v= .bool true/\Ext w w':=by
 refine py (e:=[(0,_)]) func23 O ntmps23 O O<|qN O<|TR O<|Sr zhQ O (z7I _) ?_
 rintro _ w1⟨rfl,c⟩
 refine Sf O<|Vk O<|Vj O<|TR O<|Sr zh6 O (z7A _) ?_
 rintro _ w1⟨rfl,rfl⟩
 refine Sf O<|Vk O<|Vj O<|TR O<|Sr zjG O (z9U _ 0) ?_
 rintro _ w1⟨rfl,rfl⟩
 refine Sf O<|Vk O<|Vj O<|TR O<|U7 O<|Ue<|Sz O<|U7 O<|Ue<|Uj O<|Sz O<|U7 O<|Ue<|Uj O ?_
 refine Sz O<|Uk O O (yc (args:=[.tmp 35,.const (Value.string (⟨#[]⟩))]) zjI O) (z8X _ []) ?_
 rintro _ w2⟨rfl,d⟩
 refine U7 O<|Ue<|Uj O<|Sz O<|Sr zhA O (z7f _) ?_
 rintro _ w2⟨rfl,rfl⟩
 refine U7 O<|Ue<|Uj O<|Sz O<|Sr zn1 O (z77 _) ?_
 rintro _ w2⟨rfl,rfl⟩
 refine U7 O<|Ue<|Uj O<|Sz O<|Sr zl6 O (z7i _) ?_
 rintro _ w2⟨rfl,rfl⟩
 refine U7 O<|Ue<|Uj O<|Sq O<|SI.qb (e:=[(2,_)]) ?_
 refine S3 func23 O ?_
 exact⟨_,O,O,c.trans d⟩
section
variable {root:Int}{go:Nat}
theorem z9N (h:Gw2 G T Q txt K X w)(q:Um G.g)(ht:T.g=Tb G.g)(hr:root<0\/(G.g.length:Int)<=root):SG prog 14 [ptr Q.s 0,ptr G.k 0,ptr T.k 0,I root] w λv w'=>v= .tuple #[.pointer none,I 1]/\Ext w w':=by
 have u:T.g.length=G.g.length:=by rw[ht];exact TQ _
 have p:Tk T.g=Tk G.g:=by rw[ht];exact YV q
 refine py (e:=[(0,_),(1,_),(2,_),(3,_)]) func14 O ntmps14 O O<|qN O<|Vj O<|Sd O O (UK (cs:=[_]) z0p O) ?_
 rintro _ w1⟨r,rfl,x,d,f⟩
 replace f:Sk w1 r [I 0] 45:=f
 have c:=h.grow d (λj e=> .inl e) (λj e=>e)
 have o:=Xx c.t
 rw[u] at o
 have n:=z43 c.t
 rw[p] at n
 have z:=d.size
 refine S5<|TZ<|SE O<|qV (T9 Zh O O)<|Sz O<|qV (T9 U28 O O)<|Td O<|Sz O<|qV (T9 U28 O O)<|Td O<|Sq O<|S9 O<|SE O<|Sr z3K O (Xx c.g) ?_
 rintro _ w1⟨rfl,rfl⟩
 refine Sf O<|Sr z3K O o ?_
 rintro _ w1⟨rfl,rfl⟩
 refine TK O<|T0<|Sz O<|Sr zhR O (z43 c.g) ?_
 rintro _ w1⟨rfl,rfl⟩
 refine Sf O<|Sr zhR O n ?_
 rintro _ w1⟨rfl,rfl⟩
 refine TK O<|T0<|Td O<|Sz O ?_
 by_cases y:root<0
 ·refine TW O<|Ue<|Td O<|Sf O<|Ua<|Ua<|Uj O<|Sq O<|SI.qb (e:=[(0,_),(1,_),(2,_),(3,_),(8,_),(9,_),(25,_)]) ?_;refine Sb O (qN O (Vj O (Sm O (TO z0p O O O f ξ) ?_)));rintro w2⟨l,m⟩;refine S5<|SF func14 (.tmp O (.cell1 U45 O O ((l).cell _) .nil)) ?_;exact⟨_,O,O,d.An m λb e=>ω⟩
 ·refine TW O<|T0<|Td O<|Sz O<|Sf O<|Sr z3K O (Xx c.g) ?_;rintro _ w1⟨rfl,rfl⟩;refine WZ O<|Ue<|Td O<|Sq O<|SI.qb (e:=[(0,_),(1,_),(2,_),(3,_),(8,_),(9,_),(25,_)]) ?_;refine Sb O (qN O (Vj O (Sm O (TO z0p O O O f ξ) ?_)));rintro w2⟨l,m⟩;refine S5<|SF func14 (.tmp O (.cell1 U45 O O ((l).cell _) .nil)) ?_;exact⟨_,O,O,d.An m λb e=>ω⟩
def zbo (c:Um g)(hg:GrR w gb go g)(ht:GrR w tb tO (Tb g))(hr:root<0\/(g.length:Int)<=root):SG prog 21 [.slice (some ⟨gb,go,none⟩) g.length gc,.slice (some ⟨tb,tO,none⟩) g.length tc,I root] w λv w'=>v= .tuple #[.pointer none,I 1]/\w'=w:=by
 have f:=c.n
 have h:=YP (gc:=gc) hg f (Zv c)
 have d:=YP (gc:=tc) ht (by rw[TQ];exact f) (Zv (z2n c))
 rw[TQ,YV c] at d
 refine py (e:=[(0,_),(1,_),(2,_)]) func21 O ntmps21 O O<|qN O<|To O<|SX O<|UR Xw O<|Sf O<|UR Xw O<|TK O<|T0<|Sz O<|Sr zgR O h ?_
 rintro _ w⟨rfl,rfl⟩
 refine Sf O<|Sr zgR O d ?_
 rintro _ w⟨rfl,rfl⟩
 refine TK O<|T0<|Td O<|Sz O ?_
 by_cases l:root<0
 ·refine TW O<|Ue<|Td O<|Sf O<|Ua<|Ua<|Uj O<|S5<|SI.qb (e:=[(0,_),(1,_),(2,_),(6,_),(7,_),(31,_)]) ?_;refine Sb O<|qN O<|To O<|S3 func21 O ?_;exact⟨_,O,O,O⟩
 ·refine TW O<|T0<|Td O<|Sz O<|Sf O<|UR Xw O<|WZ O<|Ue<|Td O<|S5<|SI.qb (e:=[(0,_),(1,_),(2,_),(6,_),(7,_),(31,_)]) ?_;refine Sb O<|qN O<|To O<|S3 func21 O ?_;exact⟨_,O,O,O⟩
end
section
variable {L:List (List Nat)}{S:Nat->Prop}
theorem RwM.kp (h:RwM w bg B L)(hB:B<=bg)(z:Kp S w w')(r:∀b,B<=b->b<w.heap.size->¬S b):RwM w' bg B L:=by
 obtain⟨vs,q,I,J⟩:=h.ex
 refine⟨vs,z.S4 q (r _ hB q.lt),I,λi l M=>?_⟩
 obtain⟨a,c,F,H,f,g4⟩:=J i l M
 refine⟨a,c,F,H,?_,g4⟩
 by_cases A:l.length=0
 ·refine⟨f.1,?_⟩;rcases f.2 with⟨p,e,m⟩|⟨d,lo,cap,e,v⟩
  ·exact .inl ⟨p,e,m⟩
  ·refine .inr ⟨d,lo,cap,e,λj u y=>?_⟩;have O:l=[]:=y0x A;rw[O] at y;cases y
 ·refine f.kp z λb o=>r b (g4 b o).1 ?_;rcases f.2 with⟨p,e,m⟩|⟨d,lo,cap,e,v⟩
  ·exact absurd m A
  ·obtain⟨x,N⟩:∃x,l[0]? =some x:=⟨_,y04 ω⟩;have n:=v 0 (SV x) (by rw[y0l,N];rfl)
   have D:d<w.heap.size:=by
    unfold World.cell? at n;rcases y0a d w.heap.size with h| h
    ·exact h
    ·have E:w.heap[d]? =none:=y1M h;rw[show((⟨d,lo+0,none⟩:Addr).block)=d from rfl,E] at n;simp at n
   rw[e] at o;obtain rfl:d=b:=UC o;exact D
theorem RwM.grk (h:RwM w bg B L)(hB:B<=bg)(q:Ext w w1)(o:∀b,B<=b->b<w.heap.size->¬C b):GrK C w1 bg 0 L:=by
 have A:∀{w':World},Kp C w1 w'->RwM w' bg B L:=λd=>h.kp hB (q.kp.trans d) o
 obtain⟨vs,n,V,E⟩:=h.ex
 intro v l p
 obtain⟨a,c,m,R,D,g4⟩:=E v l p
 have r:∀{w':World},Kp C w1 w'->Sk w' bg vs 40:=λd=>(q.kp.trans d).S4 n (o _ hB n.lt)
 refine⟨a,c,λd=>by rw[(r d).cell,y0g,y0j];exact m,λi x hi=>?_⟩
 have N:i<l.length:=by
  rcases y0a i l.length with h| h
  ·exact h
  ·rw[y0n h] at hi;cases hi
 rcases D.2 with⟨z,e,U⟩|⟨u,lo,cap,e,Y⟩
 ·omega
 ·obtain⟨rfl,-,rfl⟩:a=some ⟨u,lo,none⟩/\True/\c=cap:=by
   injection e with f e2 e3
   exact⟨f,trivial,e3⟩
  refine⟨u,lo,O,λd=>?_⟩;obtain⟨J,F,Z,H⟩:=(A d).ex;obtain⟨M,z,y,g,I,j⟩:=H v l p;have f:=F.uniq (r d);subst f;rw[m] at y;cases y;exact TF I (by rw[y0l,hi];rfl)
end
def zgh (w:World)(la:Option Addr)(ls:List (Int×Int×Int×Int)):Prop:=∀(i:Nat)(e:Int×Int×Int×Int),ls[i]? =some e->JIq e.2.2.1/\JIq e.2.2.2/\∃c lo,la=some ⟨c,lo,none⟩/\∀(j:Nat)(u:Value),[I e.1,I e.2.1,I e.2.2.1,I e.2.2.2][j]? =some u->w.cell? ⟨c,lo+i*4+j,none⟩=some u
theorem zgh.ext (h:zgh w la ls)(o:Ext w w'):zgh w' la ls:=λi e m=>by
 obtain⟨c,d,p,lo,f,l⟩:=h i e m
 exact⟨c,d,p,lo,f,λj u n=>Ts o (l j u n)⟩
theorem zba (q:Um g){go:Nat}(hg:GrR w gb go g):SG prog 22 [.slice (some ⟨gb,go,none⟩) g.length gc] w λv w'=>∃f,v= .slice (some ⟨f,0,none⟩) g.length g.length/\RwM w' f w.heap.size (Tb g)/\w.heap.size<=f/\Ext w w':=by
 have fI:maxLen=9223372036854775807:=rfl
 have hn:=q.n
 refine py (e:=[(0,_)]) func22 O ntmps22 O O<|qN O<|TR O<|UR Xw O<|Sd O O (pmk (c:=g.length) (n:=g.length) Xw VR O O O ω ω ω) ?_
 rintro _ w1⟨f,rfl,⟨nL,G,K⟩,-⟩
 have Q:RwA w1 f w.heap.size (VX g 0 0):=by
  have e:VX g 0 0=List.replicate g.length []:=by
   apply y25<;>simp[VX,Ym]
  rw[e];exact RwA.new K
 refine Sq O<|It<|TU O<|S7<|UW (α:=Nat) (0) (λv=>[(0,.slice (some ⟨gb,go,none⟩) g.length gc),(3,.slice (some ⟨f,0,none⟩) g.length g.length),(4,I (v:Int))]) (λv w'=>v<=g.length/\RwA w' f w.heap.size (VX g v 0)/\Ext w w') (λv=>g.length-v) ?hI ?hround
 case hI=>exact⟨y02 _,Q,G⟩
 case hround =>
  rintro v w2⟨hv,Z,Y⟩ ih
  try dsimp only
  refine It<|TV O<|UR Xw O<|TW O<|S5<|So O (λhq=>?_)<|λhq=>?_
  ·have F:v<g.length:=ω
   have j:g[v]? =some (Si g v):=by unfold Si;rw[y04 F];rfl
   have ic:(Si g v).length<=g.length:=q.len (y0i j);refine S6<|TZ<|TU O<|S7<|UW (α:=Nat) (0) (λi=>[(0,.slice (some ⟨gb,go,none⟩) g.length gc),(3,.slice (some ⟨f,0,none⟩) g.length g.length),(4,I (v:Int)),(5,I (i:Int))]) (λi w'=>i<=(Si g v).length/\RwA w' f w.heap.size (VX g v i)/\Ext w w') (λi=>(Si g v).length-i) ?hI ?hround
   case hI=>exact⟨y02 _,Z,Y⟩
   case hround=>
    rintro i p⟨hi,E,l⟩ M;obtain⟨a,c,A,T⟩:=hg v _ j;have d:=Ext.Sv p
    try dsimp only
    refine It<|TV O<|Sf O<|qV (Tm Xw VR O O ω)<|qV (SQ SR O O (Ts l A))<|UR SR O<|TW O<|S5<|So O (λia=>?_)<|λia=>?_
    ·obtain⟨u,J⟩:∃u,(Si g v)[i]? =some u:=⟨_,y04 ω⟩;obtain⟨lb,lo,rfl,t⟩:=T i u J;have kU:u<g.length:=Vx q v u (y0i J);have R:=Y7 g v i kU;have jQ:=z6q g v i u;obtain⟨vs,N,pM,j6,xF⟩:=id E.ex;obtain⟨o,S,uU,r⟩:=j6 u _ R
     have B:∀{w':World},Kp (λb=>o.ownBlock=some b) p w'->w'.cell? ⟨f,0+u*1,none⟩=some o:=λH=>by
      rw[(H.S4 N (λe=>(r _ e).2 O)).cell,y0g,y0j];exact S
     have z3:=l.size;refine S6<|TZ ?_;have x:∀{w':World},Kp (λb=>o.ownBlock=some b) p w'->Ext w w':=λH=>l.An H (λb e=>(r b e).1);refine Sx [23] (λw'=>Kp (λb=>o.ownBlock=some b) p w') y00 O (Te 0 O O d.kp (Te 1 O O d.kp (Te 2 O O d.kp (SB 3 O (Tm Xw VR O O ω) d.kp (Te 5 O O d.kp (Te 8 O O d.kp (Te 9 O O d.kp (Te 10 O O d.kp (SB 11 O (Tm Xw VR O O ω) d.kp (Te 13 O O d.kp (Te 18 O O d.kp (SB 19 O (z4r O U3 U0) d.kp (qL 4 O (λ_ h=>SQ SR O O (Ts (x h) A)) d.kp ?_)))))))))))));refine qL 12 O (λ_ h=>SQ SR O O (Ts (x h) A)) d.kp (SB 6 O (Tm SR Sy O O ω) d.kp (SB 14 O (Tm SR Sy O O ω) d.kp (qL 7 O (λ_ h=>SQ U0 O O (Ts (x h) t)) d.kp (qL 15 O (λ_ h=>SQ U0 O O (Ts (x h) t)) d.kp (SB 16 O (Tm Xw VR O O ω) d.kp (qL 17 O (λ_ h=>SQ SR O O (B h)) d.kp ?_))))));rw[y0e (show v<4294967296 by omega)];refine U6 (i:=20) y00 (Ty (i:=20) O O O (pbs (cs:=[_]) (zs:=[Value.int .u32 0]) SR Sy O y00 O O O ψ) ?_);rintro v4 w4⟨b4,rfl,⟨fO,U,aG⟩,P⟩;refine⟨d.kp.trans U.kp,?_⟩;have m:=d.trans U;refine U6 (i:=21) y00 (Ty (i:=21) O O O (pap SR Sy O ψ O O (uU.ext m) P.rd (λc X=>by obtain⟨z,-,rfl⟩:=y0k.1 (show c∈[v].map SV from X);rfl) ω ω) ?_);rintro v5 w5⟨k,y,pn,-⟩;refine⟨m.kp.trans y,?_⟩;have D:Kp (λb=>o.ownBlock=some b) p w5:=m.kp.trans y;have a0:=m.size;have xG:=D.S4 N (λe=>(r _ e).2 O);refine SB 22 O (Tm Xw VR O O ω) (m.kp.trans y) (Wg [23] (qO 23 (SY (i:=23) O O (TO VR O O (Wz k) xG (by rw[pM,VZ];omega)) ?_)));rintro w6⟨C,V⟩;refine⟨trivial,?_⟩;have s:=E.put (l':=Ym g v i u++[v]) N R S D (by rw[y01,y0f];exact k) (λb W=>(pn b W).imp id λe=>ω) V C z3;rw[z5X q J] at s;refine qE<|S2<|Uw O<|Tr O<|Sq O ?_;exact(M (i+1) _ ⟨ω,s,(l.An D (λb e=>(r b e).1)).An V (λb e=>ω)⟩ ω).qb
    ·have L:i=(Si g v).length:=ω
     subst L;refine Sh O<|S2<|Uw O<|Tr O<|Sq O ?_
     have e:VX g v (Si g v).length=VX g (v+1) 0:=by
      unfold VX;exact y0O λu _=>z5g g v u
     exact(ih (v+1) _ ⟨ω,by rw[<-e];exact E,l⟩ ω).qb
  ·have F:v=g.length:=ω
   subst F;refine Sh O<|SE O<|Sq O<|S3 func22 O ?_;exact⟨_,O,f,O,Z.rw,ω,Y⟩
section
variable {W:Wd}{Y Z:Nat->Prop}{cl:Bool}
def pdA (W:Wd)(Y Z O_:Nat->Prop)(b:Nat):Prop:=Y b/\(b≠W.G.k/\b≠W.G.x/\b≠W.T.k/\b≠W.T.x/\b≠1/\b≠2/\¬O_ b)/\¬Z b
def pdA.not (h:pdA W Y Z O_ b):¬pdD Y Z O_ b:=λe=>e.elim (λe=>e h.1) λe=>e.elim h.2.1.2.2.2.2.2.2 h.2.2
def pdA.zpa (h:pdA W Y Z O_ b)(c:∀b,Y b->Y' b)(d:∀b,Z' b->Z b\/B<=b)(f:b<B):pdA W Y' Z' O_ b:=⟨c b h.1,h.2.1,λe=>(d b e).elim h.2.2 λe=>ω⟩
def pdA.ziK {c:Wd}{d:Nat->Prop}(h:pdA W Y Z O_ b)(l:∀b,b<B->Y' b)(f:∀b,d b->B<=b)(n:B<=c.G.k/\B<=c.G.x/\B<=c.T.k/\B<=c.T.x)(m:b<B):pdA c Y' Z d b:=by
 obtain⟨n1,n2,o,p⟩:=n
 exact⟨l b m,⟨ω,ω,ω,ω,h.2.1.2.2.2.2.1,h.2.1.2.2.2.2.2.1,λe=>by have:=f b e;omega⟩,h.2.2⟩
theorem PdC.frame (c:PdC w1 C g GS TS W Y Z root mb rr O_ s cl k w)(l:∀b,w1.heap.size<=b->C b)(f:Kp C w1 w2)(d:Kp (pdD Y Z O_) w2 w'):Kp C w1 w':=f.An d λb e=>by
 rcases y0a b w1.heap.size with h| h
 ·rcases e with e|e| e
  ·exact .inr ((c.top b h).resolve_left e)
  ·exact .inr (c.ob.2 b e)
  ·exact .inr (c.zy b e).2.1
 ·exact .inl h
theorem RwM.zkY {L:List (List Nat)}(h:RwM w bg B L):RwM w bg 0 L:=by
 obtain⟨vs,n,o,p⟩:=h.ex
 refine⟨vs,n,o,λi l q=>?_⟩
 obtain⟨a,c,d,f,m,g4⟩:=p i l q
 exact⟨a,c,d,f,m,λb e=>⟨y02 _,(g4 b e).2⟩⟩
def z4O {P:Program}{ops:Array Oper}{Q:Exit->Act->World->Prop}{S S':World->Prop}(h:∀w,S' w->S w):∀(n:Nat)(c:Array Bool) (a:Act) (w:World),XF P ops Q S' n c a w->XF P ops Q S n c a w
 |0,_,_,_,hh=>hh
 |n+1,_,_,_,hh=>⟨hh.1,λi hi=>AtR.mono (λe w' d=>⟨h _ d.1,z4O h n _ _ _ d.2⟩) (hh.2 i hi)⟩
theorem RH.zpi {D:RC}{S S':World->Prop}{c:Array Bool}{e:Env}(h:∀w,S' w->S w)(hr:RH D S' fuel c e w):RH D S fuel c e w:=λa d=>z4O h _ _ _ _ (hr a d)
theorem z8p (h:PdR w1 C g GS TS W Y Z root mb rr O_ s k w cl):SG prog 28 [ptr rr 0] w λv w'=>v=I (g.length:Int)/\w'=w:=by
 have hg:=h.c.gg
 subst hg
 cases h with
 |op txt K c d m=>exact z9x m
 |cl txt K e s0 vb c d f l m hB=>exact z6F m.g hB
theorem YK (h:PdR w1 C g GS TS W Y Z root mb rr O_ s k w cl):SG prog 29 [ptr W.Q.s 0] w λv w'=>∃a b c d e:Value,v= .agg #[a,b,c,d,e,I 0,I 0]/\Ext w w':=by
 cases h with
 | op txt K c f m =>
   have:=z3D m.sp
   exact this
 | cl txt K n s0 vb c f l o m hB =>
   have:=z3D m.sp;rw[l] at this;exact this
theorem z7Z (h:PdR w1 C g GS TS W Y Z root mb rr O_ s k w false):SG prog 20 [ptr rr 0] w λv w'=>v=I (s.steps:Int)/\w'=w:=by
 cases h with
 |op txt K c d m=>exact z9m m
theorem PdR.lt (h:PdR w1 C g GS TS W Y Z root mb rr O_ s k w cl):∀b,Y b->b<w.heap.size:=by
 cases h with
 |op txt K c e m=>exact λb d=>m.lt b (.inl (.inl d))
 |cl txt K f s0 vb c e l n m hB=>exact λb d=>m.lt b (.inl (.inl d))
theorem PdR.oy (h:PdR w1 C g GS TS W Y Z root mb rr O_ s k w false):∀b,O_ b->b<w.heap.size:=by
 cases h with
 |op txt K c d m=>exact λb e=>m.lt b (.inl (.inl (m.xr b e)))
theorem PdR.xlt (h:PdR w1 C g GS TS W Y Z root mb rr O_ s k w cl):W.G.k<w.heap.size/\W.G.x<w.heap.size/\W.T.k<w.heap.size/\W.T.x<w.heap.size/\1<w.heap.size/\2<w.heap.size:=by
 have d:=h.lt
 cases h with
 | op txt K c o m =>
   obtain⟨x1,x2,e,f,l,n⟩:=m.xk
   exact⟨d _ x1,d _ x2,d _ e,d _ f,d _ l,d _ n⟩
 | cl txt K p s0 vb c o q r m hB =>
   obtain⟨x1,x2,e,f,l,n⟩:=m.xk;exact⟨d _ x1,d _ x2,d _ e,d _ f,d _ l,d _ n⟩
theorem PdR.grow (h:PdR w1 C g GS TS W Y Z root mb rr O_ s k w cl)(f:Ext w w')(o:∀j,Y' j->Y j\/(w.heap.size<=j/\j<w'.heap.size))(d:∀j,Y j->Y' j):PdR w1 C g GS TS W Y' Z root mb rr O_ s k w' cl:=by
 have p:PdC w1 C g GS TS W Y' Z root mb rr O_ s cl k w':=by
  have c:=h.c.ext f;exact⟨c.gg,c.tg,c.n,c.hr,c.pre,c.a,c.L,c.gs,c.ts,c.rf,λb e=>⟨d b (c.zy b e).1,(c.zy b e).2⟩,λb e=>(c.top b e).imp (d b) id,c.ob,c.j,c.st,c.k⟩
 cases h with
 |op txt K c l m=>exact .op txt K p l (m.grow f o d)
 |cl txt K q s0 vb c l r u m hB=>exact .cl txt K q s0 vb p l r (d _ u) (m.grow f o d) (f.S4 hB)
theorem PdR.own {b6:Nat}(h:PdR w1 C g GS TS W Y Z root mb rr O_ s k w cl)(f:Kp (λb=>b=b6) w w')(d:Y b6/\(b6≠W.G.k/\b6≠W.G.x/\b6≠W.T.k/\b6≠W.T.x/\b6≠1/\b6≠2/\¬O_ b6)/\¬Z b6):PdR w1 C g GS TS W Y Z root mb rr O_ s k w' cl:=by
 have o:PdC w1 C g GS TS W Y Z root mb rr O_ s cl k w':=by
  have c:=h.c;exact⟨c.gg,c.tg,c.n,c.hr,c.pre,c.a,c.L,c.gs,c.ts,c.rf.kp f (λb r e=>d.2.2 (e▸r)),c.zy,c.top,c.ob,c.j,c.st,c.k⟩
 cases h with
 |op txt K c l m=>exact .op txt K o l (m.own f λj e=>by subst e;exact⟨d.1,d.2.1⟩)
 |cl txt K p s0 vb c l q u m hB=>exact .cl txt K p s0 vb o l q u (m.own f λj e=>by subst e;obtain⟨v,y,z,A,D,E,F⟩:=d.2.1;exact⟨d.1,v,y,z,A,D,E⟩) (f.S4 hB (λe=>d.2.1.2.2.2.2.2.2 (e▸c.ob.1)))
end
theorem domplays_ret (hG:Sk w 1 (W5 .gamma) 314)(hU:Sk w 2 (W5 .unary) 314)(n root fr fo:Int)(hn:JIq n)(kr:JIq root)(mB:JIq fr)(Cw:JIq fo){ea:Option Addr}{ec:Nat}{es:List (Nat×Nat)}(wH:es.length<=9000000000000000000)(hE:EdR w ea es){lc:Nat}(iW:ls.length<=9000000000000000000)(hL:zgh w la ls):SG prog 6 [I n,.slice ea es.length ec,I root,I fr,I fo,.slice la ls.length lc] w λv w'=>v= .bool true/\Ext w w':=by
 refine py (e:=[(0,_),(1,_),(2,_),(3,_),(4,_),(5,_)]) func6 O ntmps6 O O<|qN O<|TR O<|Sr cf9 O (z7s n hn _) ?_
 rintro _ w⟨m,rfl,iZ,dx,rfl⟩
 refine Sf O<|Sr cf8 O (zdh iZ dx wH hE) ?_
 rintro _ wg⟨g,bg,rfl,kN,aq,eQ,aa⟩
 have yC:=eQ.gr
 have aQ:1<=g.length:=ω
 have nX:g.length<=40:=ω
 have Kn:=aa.S4 hG
 have Ko:=aa.S4 hU
 have lG:=hG.lt
 have lU:=hU.lt
 have au:=eQ.lt
 have zg:=aa.size
 refine Up O<|Sz O<|Sf O<|Sr zkX O (z8F aq aQ nX yC Kn Ko fr fo mB Cw) ?_
 rintro _ w5⟨W,XX,rfl,hW,aU,gA,v1,v2,v3,v4⟩
 have z5:=aU.size
 refine Sf O<|Vk O<|Sd O O (UK (cs:=[_,_,_,_,_]) z0s O) ?_
 rintro _ w6⟨b6,rfl,oo,aM,aW⟩
 have z6:=aM.size
 refine Sm O (Ta (news:=W.v) z0s O O O O aW ξ) ?_
 rintro w7⟨cm,ay⟩
 have fP:Sk w7 b6 [ptr W.d 0,ptr W.Q.s 0,ptr W.G.k 0,ptr W.T.k 0,I ((200-W.a:Nat):Int)] 30:=cm
 have l7:=cm.lt
 have z7:=ay.size
 have lN:Ext w5 w7:=aM.An ay λb e=>ω
 have yD:=aU.trans lN
 have Qi:=hW.K
 have av:=hW.gg
 have sX:=hW.tg
 have ha:=hW.a
 have E3:=hW.L
 have df:=hW.pre
 have S0:=hW.gs
 have kZ:=hW.ts
 obtain⟨X,hX⟩:∃X:Nat->Prop,(λb=>W.x XX b\/b=b6)=X:=⟨_,O⟩
 have Mj:∀b,b<wg.heap.size->X b:=λb hb=>by rw[<-hX];exact .inl (gA b hb)
 have oI:X b6:=by rw[<-hX];exact .inr O
 have g7:Gw2 W.G W.T W.Q W.txt W.K X w7:=hW.gw2.grow lN (λj e=>by rw[<-hX] at e;exact e.imp id λe=>ω) (λj e=>by rw[<-hX];exact .inl e)
 have Kq:=g7.xk
 have je:∀b,X b->b<w7.heap.size:=λb hb=>g7.lt b (.inl (.inl hb))
 refine Sq O<|SX O<|qV (Vn O) ?_
 rw[show(!true)=false from rfl]
 by_cases El:root<0\/(g.length:Int)<=root
 ·have bB:=z9N g7 (by rw[av];exact aq) (by rw[av];exact sX) (root:=root) (by rw[av];exact El);refine Tt O<|qN O<|Sn ZC O<|qV (Sc Zh O O fP O)<|Sn zbe O<|qV (Sc U28 O O fP O)<|Sn z9K O<|qV (Sc U28 O O fP O)<|Sf O<|Sr zkr O bB ?_;rintro _ w9⟨rfl,fj⟩;have qI:=yD.trans fj
  have qK:GrR w9 bg 0 g:=by
   obtain⟨a0,a2,a1,e,hq⟩:=(yC.r aQ);cases e;exact hq.ext qI
  refine Sf O<|Vk O<|To O<|SI.qb (e:=[(2,_),(5,_),(12,_),(13,_),(14,_),(16,_),(17,_)]) ?_;refine TV O<|Sr zjC O (z4L aq qK) ?_;rintro _ f⟨bt,rfl,zm,aX⟩
  have qP:GrR f bt 0 (Tb g):=by
   obtain⟨a0,a2,a1,e,hq⟩:=zm.gr.r (by rw[TQ];omega);cases e;exact hq
  refine Sf O<|Sr zmn O (zbo (tc:=g.length) aq (qK.ext aX) qP El) ?_;rintro _ f⟨rfl,rfl⟩;refine Sf O<|Vk O<|To O<|It<|TV O<|TK O<|T0<|Sz O<|qV (T9 U44 O O)<|Sf O<|qV (T9 U61 O O)<|qV (zlf O O U4) ?_;rw[show(!((none:Option Addr).isNone==(none:Option Addr).isNone))=false from rfl];refine Td O<|S5<|SI.qb (e:=[(2,_),(5,_),(12,_),(13,_),(14,_),(16,_),(18,_),(66,_)]) ?_;refine VP O<|SX O<|qV (T9 U61 O O) ?_;have fE:=(fj.trans aX).S4 fP;have M:=Ext.Sv f;have ag:Gw2 W.G W.T W.Q W.txt W.K X f:=g7.grow (fj.trans aX) (λj e=> .inl e) (λ_ e=>e);refine S5<|Sb O<|It<|Ux (λw'=>Ext f w') O<|St 0 O O M<|VF 1 O zpb O (z5D _) ?_;rintro _ H⟨rfl,A⟩;refine⟨M.trans A,?_⟩;have a6:=ag.grow (M.trans A) (λj e=> .inl e) (λ_ e=>e);have dK:=a6.sp.room df ω;rw[E3] at dK;refine St 2 O O (M.trans A)<|S8 3 O (SN ZC O) (M.trans A)<|qT 4 O (λ_ h=>Sc Zh O O (h.S4 fE) O) (M.trans A)<|S8 7 O (SN zfl O) (M.trans A)<|qT 8 O (λ_ h=>Sc U3 O O (h.S4 fE) O) (M.trans A)<|VF 5 O zny O a6.sp.map ?_;rintro _ _⟨rfl,rfl⟩;refine⟨M.trans A,?_⟩;refine VF 6 O zk1 O dK ?_;rintro _ a3⟨rfl,S⟩;refine⟨(M.trans A).trans S,?_⟩;refine S8 9 O (yeq O O) ((M.trans A).trans S)<|Xl<|S8 10 O (YD O O) ((M.trans A).trans S)<|S8 11 O (UU O) ((M.trans A).trans S)<|qE<|S3 func6 O ?_;exact⟨_,O,O,(aa.trans qI).trans (aX.trans ((M.trans A).trans S))⟩
 ·obtain ⟨r, rfl⟩ : ∃ r : Nat, root = (r : Int) := ⟨root.toNat, by omega⟩; have Dy : r < g.length := by omega
  refine Tt O (qN O (Sn ZC O (qV (Sc Zh O O fP O) (Sn zbe O (qV (Sc U28 O O fP O) (Sn z9K O (qV (Sc U28 O O fP O) (Sf O (Sr zkr O (z6n g7 ω (by rw[av];omega) (by rw[av];exact aq) (by rw[av];exact sX) df ω kZ ω (by rw[av];exact Dy)) ?_)))))))));rintro _ w9⟨rr,O_,a7,K9,rfl,Mk,S1,m9,EC,aK⟩;rw[av] at m9;have z9:=aK.size
  have qI:Ext wg w9:=yD.An aK λb e=>by
   rcases y0a b wg.heap.size with h| h
   ·exact absurd (Mj b h) e
   ·exact h
  have cI:=aK.S4 fP (λe=>e oI)
  have qK:GrR w9 bg 0 g:=by
   obtain⟨a0,a2,a1,e,hq⟩:=(yC.r aQ);cases e;exact hq.ext qI
  refine Sf O<|Vk O<|To O<|SI.qb (e:=[(2,_),(5,_),(12,_),(13,_),(14,_),(16,_),(17,_)]) ?_;refine TV O<|Sr zjC O (zba aq qK) ?_;rintro _ f⟨bt,rfl,zm,nL,aX⟩;have az:=aX.size
  have qP:GrR f bt 0 (Tb g):=by
   obtain⟨a0,a2,a1,e,hq⟩:=zm.gr.r (by rw[TQ];omega);cases e;exact hq
  refine Sf O<|Sr zmn O (zef (tc:=g.length) (gc:=g.length) aq (qK.ext aX) qP Dy) ?_;rintro _ H⟨mb,bn,cn,bl,bc,cc,vs,vo,rfl,fw,A⟩;have aA:=A.size;have qC:∀b,O_ b->b<w9.heap.size:=λb hb=>m9.lt b (.inl (.inl (.inr hb)));refine Sf O<|Vk O<|To O<|It<|TV O<|TK O<|T0<|Sz O<|qV (T9 U44 O O)<|Sf O<|qV (T9 U61 O O)<|qV (zlf O O U4) ?_;rw[show(!((some (⟨rr,0,none⟩:Addr)).isNone==(some (⟨mb,0,none⟩:Addr)).isNone))=false from rfl];refine Td O<|S5<|SI.qb (e:=[(2,_),(5,_),(12,_),(13,_),(14,_),(16,_),(18,_),(66,_)]) ?_;refine VP O<|SX O<|qV (T9 U61 O O)<|Tt O<|It<|TU O<|S7 ?_;have j3:=qI.trans aX;have an:=j3.size;have QJ:=aU.size;have QL:=yD.size;obtain⟨C,hC⟩:∃C:Nat->Prop,(λb=>¬(b<wg.heap.size\/(w9.heap.size<=b/\b<f.heap.size)))=C:=⟨_,O⟩;have Dz:∀b,f.heap.size<=b->C b:=λb e=>by rw[<-hC];exact λU=>ω
  have Kr:∀b,wg.heap.size<=b->b<w9.heap.size->C b:=λb e e3=>by rw[<-hC];exact λU=>ω
  have DA:∀b,b<wg.heap.size->¬C b:=λb e=>by rw[<-hC];exact λU=>U (.inl e)
  have QN:∀b,w9.heap.size<=b->b<f.heap.size->¬C b:=λb e e3=>by rw[<-hC];exact λU=>U (.inr ⟨e,e3⟩)
  have QO:∀b,C b->wg.heap.size<=b:=λb e=>by
   rcases y0a b wg.heap.size with h| h
   ·exact absurd e (DA b h)
   ·exact h
  have tD:GrK C f bg 0 g:=eQ.zkY.grk (y02 _) j3 (λb _ e=>DA b e);have yu:GrK C f bt 0 (Tb g):=zm.grk nL (Ext.refl _) (λb e U=>QN b e U);have Kh:∀{w':World},Kp C f w'->GrM w' (.slice (some ⟨bg,0,none⟩) g.length g.length) g:=λhk=>(eQ.zkY.kp (y02 _) (j3.kp.trans hk) (λb _ e=>DA b e)).gr;have zn:∀{w':World},Kp C f w'->Sk w' 1 (W5 .gamma) 314:=λhk=>(j3.kp.trans hk).S4 Kn (DA _ Kn.lt);have QP:∀{w':World},Kp C f w'->Sk w' 2 (W5 .unary) 314:=λhk=>(j3.kp.trans hk).S4 Ko (DA _ Ko.lt);have yJ:∀{w':World},Kp C f w'->Ext w w':=λhk=>(aa.trans j3).An hk λb e=>by have:=QO b e;omega
  have pQ:=(aX.trans A).S4 cI;have DB:=aX.trans A;obtain⟨Y,hY⟩:∃Y:Nat->Prop,(λj=>(X j\/O_ j)\/(w9.heap.size<=j/\j<H.heap.size))=Y:=⟨_,O⟩;have ah:=m9.grow DB (Y:=Y) (λj e=>by rw[<-hY] at e;exact e) (λj e=>by rw[<-hY];exact .inl e);obtain⟨x1,x2,x3,x4,x5,x6⟩:=Kq;have y1:=je _ x1;have y2:=je _ x2;have y3:=je _ x3;have y4:=je _ x4;have y5:=je _ x5;have y6:=je _ x6;have cY:=hW.gw2;have q1:=cY.lt _ (.inl (.inl cY.xk.1));have q2:=cY.lt _ (.inl (.inl cY.xk.2.1));have q3:=cY.lt _ (.inl (.inl cY.xk.2.2.1));have q4:=cY.lt _ (.inl (.inl cY.xk.2.2.2.1));have Do:∀b,b<w7.heap.size->¬O_ b:=λb e U=>by have:=Mk b U;omega
  have QQ:RdX f.heap.size (.slice (some ⟨bg,0,none⟩) g.length g.length) (.slice (some ⟨bt,0,none⟩) g.length g.length) g.length r mb (DmS.new g.length r) false (λb=>f.heap.size<=b/\b<H.heap.size) H:=by
   obtain⟨o1,o2,o3,o4⟩:=fw.lo;obtain⟨rn,QR⟩:=fw.nu;obtain⟨rc,QS⟩:=fw.c;exact⟨bn,cn,bl,bc,cc,vs,vo,fw,⟨o1,fw.run.lt⟩,⟨o2,QR.lt⟩,⟨o3,fw.l.lt⟩,⟨o4,QS.lt⟩,λb e=>⟨(fw.sa b e).1,fw.st.lt e⟩,λb e=>⟨(fw.oa b e).1,fw.od.lt e⟩⟩
  have wh:PdR f C g (.slice (some ⟨bg,0,none⟩) g.length g.length) (.slice (some ⟨bt,0,none⟩) g.length g.length) W Y (λb=>f.heap.size<=b/\b<H.heap.size) r mb rr O_ (DmS.new g.length r) 0 H false:=by
   refine .op a7 K9 ⟨av,sX,nX,Dy,df,ha,E3,ω,kZ,QQ,λb e=>?_,λb e=>?_,⟨m9.m.ro,λb e=>Kr b (by have:=Mk b e;omega) (qC b e)⟩,⟨DmJ.new aq Dy,λ_=>LkZ.new Dy⟩,y07 _,ω⟩ ω ah
   ·refine⟨by rw[<-hY];exact .inr ⟨ω,e.2⟩,Dz b e.1,ω,ω,ω,ω,ω,ω,λU=>by have:=qC b U;omega⟩
   ·rcases y0a b w9.heap.size with h| h
    ·rcases y0a b wg.heap.size with h2|h2
     ·exact .inl (by rw[<-hY];exact .inl (.inl (Mj b h2)))
     ·exact .inr (Kr b h2 h)
    ·exact .inl (by rw[<-hY];exact .inr ⟨h,ω⟩)
  have oY:pdA W Y (λb=>f.heap.size<=b/\b<H.heap.size) O_ b6:=⟨by rw[<-hY];exact .inl (.inl oI),⟨ω,ω,ω,ω,ω,ω,Do _ l7⟩,λe=>ω⟩;have DC:Kp C f H:=A.kp;refine UW (α:=(Wd×Nat)×Nat) ((W,rr),0) (λp=>[(2,I (r:Int)),(5,.slice la ls.length lc),(13,.slice (some ⟨bg,0,none⟩) g.length g.length),(14,ptr b6 0),(16,ptr p.1.2 0),(18,ptr mb 0),(20,I (p.2:Int))]) (λp w'=>p.2<=100/\p.2<=ls.length/\(∃Y Z O_ s cl k,k<=2*p.2/\PdR f C g (.slice (some ⟨bg,0,none⟩) g.length g.length) (.slice (some ⟨bt,0,none⟩) g.length g.length) p.1.1 Y Z r mb p.1.2 O_ s k w' cl/\pdA p.1.1 Y Z O_ b6/\∀b,O_ b->b<w'.heap.size)/\Kp C f w'/\Sk w' b6 p.1.1.v 30) (λp=>100-p.2) ?hI ?hround
  case hI=>exact⟨y02 _,y02 _,⟨Y,_,O_,_,false,0,y07 _,wh,oY,λb e=>by have:=qC b e;omega⟩,DC,pQ⟩
  case hround =>
   rintro⟨⟨Wi,ri⟩,i⟩ a3 ⟨DD,de,⟨Yi,P,Oi,si,a5,ki,rL,t8,EJ,EK⟩,S,tr⟩ ih;dsimp only at DD de rL t8 EJ EK tr ih⊢
   try dsimp only
   by_cases h1:i<ls.length
   ·refine It<|TV O<|UR U60 O<|TW O<|Ue<|Sf O ?_;by_cases h2:i<100
    ·refine Sf O<|TW O<|Ue<|Uj O ?_;obtain⟨⟨ok,on,F,E⟩,ho⟩:∃o,ls[i]? =some o:=⟨_,y04 h1⟩;obtain⟨DE,DF,lb,lo,rfl,Ml⟩:=(hL.ext (yJ S)) i _ ho;dsimp only at DE DF Ml;refine S5 (Sb O (S6 (TZ (TV O (qV (Tm U60 zcT O O ω) (qV (SO (news:=[I ok,I on,I F,I E]) U69 O zcT O Ml O) (Sd O O (UK (cs:=[_,_,_,_]) zcT O) ?_)))))));rintro _ ax⟨D,rfl,FS,aT,bM⟩;refine Sm O (Ta (news:=[I ok,I on,I F,I E]) zcT O O O O bM ξ) ?_;rintro a4⟨cg,lS⟩;have aC:=aT.size;have aD:=lS.size;have ao:=bM.lt;have aB:=S.size;have j4:Sk a4 D [I ok,I on,I F,I E] 69:=cg;have mv:Ext a3 a4:=aT.An lS λb e=>ω
     have DG:=t8.lt;have QT:=t8.c;have l6:=DG _ EJ.1;obtain⟨R,Ks⟩:∃R:Nat->Prop,(λj=>Yi j\/j=D)=R:=⟨_,O⟩;have DH:∀j,Yi j->R j:=λj e=>by rw[<-Ks];exact .inl e
     have DI:R D:=by rw[<-Ks];exact .inr O
     have DJ:=t8.grow mv (Y':=R) (λj e=>by rw[<-Ks] at e;exact e.imp id λe=>ω) DH;have EL:=mv.S4 tr;have jB:Kp C f a4:=S.trans mv.kp;have QU:∀b,P b->b<a3.heap.size:=λb e=>DG b (QT.zy b e).1;have zo:=t8.xlt;have tS:pdA Wi R P Oi b6:=⟨DH _ EJ.1,EJ.2⟩;have mR:pdA Wi R P Oi D:=⟨DI,⟨ω,ω,ω,ω,ω,ω,λe=>by have:=EK _ e;omega⟩,λe=>by have:=QU _ e;omega⟩;refine S5<|It<|Tc (λe' w'=>∃(z:Wd)(r2:Nat) (Y2 N:Nat->Prop) (k2:Nat),e'=[(2,I (r:Int)),(5,.slice (some ⟨lb,lo,none⟩) ls.length lc),(13,.slice (some ⟨bg,0,none⟩) g.length g.length),(14,ptr b6 0),(16,ptr r2 0),(18,ptr mb 0),(20,I (i:Int)),(21,ptr D 0)]/\k2<=2*i+1/\PdR f C g (.slice (some ⟨bg,0,none⟩) g.length g.length) (.slice (some ⟨bt,0,none⟩) g.length g.length) z Y2 P r mb r2 N si k2 w' a5/\pdA z Y2 P N b6/\pdA z Y2 P N D/\(∀b,N b->b<w'.heap.size)/\Kp C f w'/\Sk w' b6 z.v 30/\Sk w' D [I ok,I on,I F,I E] 69) ?uJ<|λuJ=>?Kx
     case uJ=>
      rintro e' t⟨z,r2,Y2,N,k2,rfl,am,cu,ox,Kt,QV,tT,dz,tU⟩;have Ku:=cu.c;have kH:=Ext.Sv t;have Kv:=cu.ext kH;have xd:=ze0 aq Dz tD yu (tT.trans kH.kp) Kv ω ok on F E;have ar:=dz.lt;have al:=tU.lt;refine It<|Ux (λw'=>Kp (pdD Y2 P N) t w') O<|St 0 O O (kH.kp)<|St 1 O O (kH.kp)<|qT 2 O (λ_ h=>SO (news:=[I ok,I on,I F,I E]) U69 O zcT O ((h.S4 tU Kt.not).cells (n:=4) O) O) (kH.kp)<|VF 3 O zpl O (xd) ?_;rintro _ J⟨rfl,⟨s2,ae,Y3,Z3,kI,rF,QW,QX⟩,DK⟩;refine⟨kH.kp.trans DK,?_⟩;have jC:=kH.kp.trans DK;have gm:=jC.S4 dz ox.not;have mS:Sk J b6 [ptr z.d 0,ptr z.Q.s 0,ptr z.G.k 0,ptr z.T.k 0,I ((200-z.a:Nat):Int)] 30:=gm;have bZ:=Ku.frame Dz tT jC;have ug:pdA z Y3 Z3 N b6:=ox.zpa rF QW (by have:=kH.size;omega);obtain⟨ac,af,ab,a9,ad,ak,aj,Kw,-⟩:=id kI.c.rf;have mw:=Kw.run;have q:=Ext.refl J;refine RH.zpi (S':=λw'=>Ext J w') (λw' h=>jC.trans h.kp)<|S8 4 O (Vn O) q ?_;rw[show(!true)=false from rfl];refine St 5 O O q<|St 6 O O q<|St 8 O O q<|S8 9 O (VQ Xw O) q<|VF 7 O zl6 O (z8p kI) ?_;rintro _ J⟨rfl,rfl⟩;refine⟨q,?_⟩;refine S8 10 O (yne O O) q<|WW<|S8 11 O (Xg O O) q<|St 12 O O (q) ?_;have oL:∀y,Ext J y->y.heap.size=y.heap.size/\((i+1<=100/\i+1<=ls.length)/\(∃Y Z O_ s cl k,k<=2*(i+1)/\PdR f C g (.slice (some ⟨bg,0,none⟩) g.length g.length) (.slice (some ⟨bt,0,none⟩) g.length g.length) z Y Z r mb r2 O_ s k y cl/\pdA z Y Z O_ b6/\∀b,O_ b->b<y.heap.size)/\Kp C f y/\Sk y b6 z.v 30):=λy hx=>⟨O,⟨ω,ω⟩,⟨Y3,Z3,N,s2,_,k2+1,ω,kI.ext hx,ug,λb e=>by have:=QV b e;have:=jC.size;have:=hx.size;omega⟩,bZ.trans hx.kp,hx.S4 gm⟩
      cases ae with
      | false =>
        refine St 13 O O q<|S8 14 O (Tu O) q<|S8 15 O (SN VM O) q<|qT 16 O (λ_ h=>(Sc U4 O O (h.S4 mw) O)) q<|S8 17 O (Vn O) q ?_;rw[show(!false)=true from rfl];refine St 18 O O q<|St 19 O O q<|St 21 O O q<|S8 22 O (Tu O) q<|S8 23 O (SN zaT O) q<|qT 24 O (λ_ h=>(Sc U3 O O (h.S4 mw) O)) q<|VF 20 O zn1 O (z7Z kI) ?_;rintro _ J⟨rfl,rfl⟩;refine⟨q,?_⟩;refine S8 25 O (yne O O) q<|WW<|S8 26 O (YD O O) q<|S8 27 O (Xg O O) q<|St 28 O O q<|S8 29 O (SN ZC O) q<|qT 30 O (λ_ h=>(Sc Zh O O (h.S4 mS) O)) q<|VF 31 O zgY O (YK kI) ?_;rintro _ y⟨s1,ai,s3,s4,s5,rfl,u⟩;refine⟨u,?_⟩;refine S8 32 O (yfd zfy O O) u<|S8 33 O (yne O O) u<|WW<|S8 34 O (Xg O O) u<|St 35 O O u<|S8 36 O (SN ZC O) u<|qT 37 O (λ_ h=>(Sc Zh O O (h.S4 mS) O)) u<|VF 38 O zgY O (YK (kI.ext u)) ?_;rintro _ B⟨q1,q2,q3,q4,q5,rfl,V⟩;refine⟨u.trans V,?_⟩;refine S8 39 O (yfd zgz O O) (u.trans V)<|S8 40 O (ygt O O) (u.trans V)<|WW<|S8 41 O (Xg O O) (u.trans V)<|qE<|VP O<|S2<|Uw O<|Tr O<|Sq O ?_;obtain⟨-,f1,f2,f3,f4⟩:=oL B (u.trans V)
        exact(ih ((z,r2),i+1) _ ⟨f1.1,f1.2,f2,f3,f4⟩ (by show 100-(i+1)<100-i;omega)).qb
      | true =>
        refine St 13 O O q<|S8 14 O (Tu O) q<|S8 15 O (SN VM O) q<|qT 16 O (λ_ h=>(Sc U4 O O (h.S4 mw) O)) q<|S8 17 O (Vn O) q ?_;rw[show(!true)=false from rfl];refine St 18 O O q<|qJ 19 O q<|qJ 20 O q<|qJ 21 O q<|qJ 22 O q<|qJ 23 O q<|qJ 24 O q<|qJ 25 O q<|S8 26 O (Xg O O) q<|S8 27 O (Xg O O) q<|St 28 O O q<|S8 29 O (SN ZC O) q<|qT 30 O (λ_ h=>(Sc Zh O O (h.S4 mS) O)) q<|VF 31 O zgY O (YK kI) ?_;rintro _ y⟨s1,ai,s3,s4,s5,rfl,u⟩;refine⟨u,?_⟩;refine S8 32 O (yfd zfy O O) u<|S8 33 O (yne O O) u<|WW<|S8 34 O (Xg O O) u<|St 35 O O u<|S8 36 O (SN ZC O) u<|qT 37 O (λ_ h=>(Sc Zh O O (h.S4 mS) O)) u<|VF 38 O zgY O (YK (kI.ext u)) ?_;rintro _ B⟨q1,q2,q3,q4,q5,rfl,V⟩;refine⟨u.trans V,?_⟩;refine S8 39 O (yfd zgz O O) (u.trans V)<|S8 40 O (ygt O O) (u.trans V)<|WW<|S8 41 O (Xg O O) (u.trans V)<|qE<|VP O<|S2<|Uw O<|Tr O<|Sq O ?_;obtain⟨-,f1,f2,f3,f4⟩:=oL B (u.trans V);exact(ih ((z,r2),i+1) _ ⟨f1.1,f1.2,f2,f3,f4⟩ (by show 100-(i+1)<100-i;omega)).qb
     case Kx=>
      obtain⟨ac,af,ab,a9,ad,ak,aj,QY,-⟩:=id DJ.c.rf;have uY:=QY.run;by_cases k3:ok=3
      ·refine qN O<|Sn zb2 O<|qV (Sc U3 O O j4 O)<|U7 O<|Ue<|Sf O ?_
       cases a5 with
       | true =>
         refine Sf O<|SC O<|Sn VM O<|qV (Sc U4 O O uY O)<|qV (Vn O) ?_;rw[show(!true)=false from rfl];refine Uj O<|Tt O ?_
         exact(uJ _ _ ⟨Wi,ri,R,Oi,ki,O,ω,DJ,tS,mR,λb e=>by have:=EK b e;omega,jB,EL,j4⟩).qb
       | false =>
         refine Sf O<|SC O<|Sn VM O<|qV (Sc U4 O O uY O)<|qV (Vn O) ?_;rw[show(!false)=true from rfl];have mh:=zbz aq aQ Dz Kh jB zn QP DJ ω ok on F E DE DF;refine Uj O<|S5<|Sb O<|qN O<|qV (SO (news:=Wi.v) U30 O z0s O (EL.cells (n:=5) O) O)<|Sz O<|Sf O<|qV (SO (news:=[I ok,I on,I F,I E]) U69 O zcT O (j4.cells (n:=4) O) O)<|Sr zoA O mh ?_;rintro _ t⟨z,Y2,r2,N,rfl,DL,rF,Mm,bB,gF⟩;have aE:=gF.size;have g8:∀{b},pdA Wi R P Oi b->¬(¬R b\/Oi b):=λh e=>e.elim (λe=>e h.1) h.2.1.2.2.2.2.2.2;have DM:=gF.S4 EL (g8 tS);have tU:=gF.S4 j4 (g8 mR);have tT:Kp C f t:=DJ.c.frame Dz jB (z8z gF);have DN:pdA z Y2 P N b6:=tS.ziK rF Mm bB ω;have DO:pdA z Y2 P N D:=mR.ziK rF Mm bB ω;refine Sf O<|qV (UY (v:= .agg z.v.toArray) O O)<|qV (UY (v:=ptr r2 0) O O)<|qV (UY (v:= .bool true) O O)<|Sd O O (UK (cs:=[_,_,_,_,_]) z0s O) ?_;rintro _ J⟨a8,rfl,FP,bZ,gm⟩;refine Sm O (Ta (news:=z.v) z0s O O O O gm ξ) ?_;rintro y⟨tQ,dY⟩;have qD:Sk y a8 z.v 30:=tQ;have aF:=bZ.size;have ap:=gm.lt;have iA:Ext t y:=bZ.An dY λb e=>ω
         have DP:=iA.S4 DM;refine To O<|SX O<|qV (Vn O) ?_;rw[show(!true)=false from rfl];refine Tt O (qN O (qV (SO (news:=z.v) U30 O z0s O (qD.cells (n:=5) O) O) (Sm O (Ta (news:=z.v) z0s O O O O DP (by simp[Wd.v])) ?_)));rintro B⟨sq,tV⟩;have DQ:Sk B b6 z.v 30:=sq;refine S5<|Uw O<|Sq O ?_;exact(uJ _ _ ⟨z,r2,Y2,N,ki+1,O,ω,(DL.ext iA).own tV DN,DN,DO,λb e=>by have:=DL.oy b e;have:=tV.size;have:=iA.size;omega,(tT.trans iA.kp).trans (tV.Se λb e=>by rw[e];exact Kr _ ω ω),DQ,tV.S4 (iA.S4 tU) ω⟩).qb
      ·refine qN O<|Sn zb2 O<|qV (Sc U3 O O j4 O)<|U7 O<|T0<|Sf O<|Ua<|Ua<|qS<|Td O<|Tt O ?_;exact(uJ _ _ ⟨Wi,ri,R,Oi,ki,O,ω,DJ,tS,mR,λb e=>by have:=EK b e;omega,jB,EL,j4⟩).qb
    ·refine Sf O<|TW O<|T0<|Uj O<|S5<|S9 O<|Sh O<|TU O<|S3 func6 O ?_;exact⟨_,O,O,yJ S⟩
   ·refine It<|TV O<|UR U60 O<|TW O<|T0<|Sf O<|Ua<|Td O<|S5<|S9 O<|Sh O<|TU O<|S3 func6 O ?_;exact⟨_,O,O,yJ S⟩
end Go.Proofs.YtbihggbffaigjaaGreatDoor
namespace Go.Proofs.YtbihggbffaigjaaGreatDoor
open Go Go.ChangeShapes Go.WideShapes Go.ChangeAt Go.RowKit Go.Deep Go.Proofs.Tryz
variable {B K L a b fuel i j k t:Nat}{C X:Nat->Prop}{G T:GwP}{P:Program}{Q:UB}{W w w' w1 w2:World}{cs:List Value}{g:List (List Nat)}{la:Option Addr}{laid:List (String×DataW Unit)}{ls:List (Int×Int×Int×Int)}{s:DmS}
section
variable {H:Type}{enc:TypeId×Value->H}{sp:Nat->Bool}
theorem zfJ {x:DataW H×List MemPlace}(h:DataW.trod enc prog W 0 sp true fuel 69 cs=some x):∃e:Int×Int×Int×Int,cs=[I e.1,I e.2.1,I e.2.2.1,I e.2.2.2]/\JIq e.2.2.1/\(JIq e.2.2.2):=by
 obtain⟨xs,n,-,y,f,o,d⟩:=DataW.trod_struct U69 h
 rw[show prog.cellsOf 69=4 by kernel_rfl] at f
 match xs,o with
 |[y0,y1,y2,y3],_=>
 match cs,f with
 | [c0, c1, c2, c3], _ =>
   have c:prog.cellsOf 3=1:=y00
   have t0:=d 0 _ O;have t1:=d 1 _ O;have t2:=d 2 _ O;have t3:=d 3 _ O;obtain⟨l,p,-,z⟩:=y1I U3 t0;obtain⟨n1,q,-,w1⟩:=y1I U3 t1;obtain⟨n2,r,-,w2⟩:=y1I U3 t2;obtain⟨m,u,-,v⟩:=y1I U3 t3;obtain rfl:c0=I l:=by simpa[c] using p
   obtain rfl:c1=I n1:=by simpa[c] using q
   obtain rfl:c2=I n2:=by simpa[c] using r
   obtain rfl:c3=I m:=by simpa[c] using u
   exact⟨(l,n1,n2,m),O,i64_in _ w2,i64_in _ v⟩
theorem open_opqs {v:Value}{x:DataW H×List MemPlace}(h:DataW.trod enc prog W 0 sp true fuel 60 [v]=some x)(U:∀n∈x.1.weights prog 60,n<=reachBytes):∃(la:Option Addr)(V:Nat) (ls:List (Int×Int×Int×Int)),v= .slice la ls.length V/\zgh W la ls/\ls.length<=9000000000000000000:=by
 rcases open_slice U60 h with⟨l,r⟩|⟨a,len,cap,m,n,D,g,l,-,k,s,Z,r,z⟩
 ·cases l;exact⟨none,0,[],O,λi e c=>by simp at c,ξ⟩
 ·cases l;rw[show prog.cellsOf 69=4 by kernel_rfl] at z;have t:len<=m:=by rw[Z];split<;>omega
  have S:∀i,i<len->∃e:Int×Int×Int×Int,JIq e.2.2.1/\JIq e.2.2.2/\W.cells? 0 (a.add (i*4)) 4=some [I e.1,I e.2.1,I e.2.2.1,I e.2.2.2]:=λi hi=>by
   obtain⟨F,c1,c2⟩:=z i ω;obtain⟨e,rfl,b1,b2⟩:=zfJ c2;exact⟨e,b1,b2,c1⟩
  obtain⟨E,o⟩:=choose_lt (α:=Int×Int×Int×Int) (n:=len) (p:=λi e=>JIq e.2.2.1/\JIq e.2.2.2/\W.cells? 0 (a.add (i*4)) 4=some [I e.1,I e.2.1,I e.2.2.1,I e.2.2.2]) S;refine⟨some a,cap,(List.range len).map E,ξ,λi e c=>?_,?_⟩
  ·rw[y0l] at c;rcases y0a i len with hi|hi
   ·rw[y1z hi] at c;obtain rfl:=UC c;obtain⟨J,M,g4⟩:=o i hi;obtain⟨b,off,A⟩:=a;have N:=(o 0 ω).2.2;obtain⟨-,-,d⟩:=World.cells?_some N;have d:=d 0 ψ;rw[y1m] at d;simp only[Addr.add,if_true] at d;obtain rfl:=z5Z d;obtain⟨-,-,R⟩:=World.cells?_some g4;refine⟨J,M,b,off,O,λj u f=>?_⟩
    have q:j<4:=by
     rcases y0a j 4 with h| h
     ·exact h
     ·rw[y0n (by show 4<=j;exact h)] at f;cases f
    have y:=R j q;rw[UG,UG] at y;rw[y,y04 (show j<[I (E i).1,I (E i).2.1,I (E i).2.2.1,I (E i).2.2.2].length from q)] at*;exact f
   ·rw[y0n (by simpa using hi)] at c;cases c
  ·have Y:=U ((len+(m-len))*32) (by rw[r];simp[DataW.weights,U60,show prog.bytesOf 69=32 by kernel_rfl]);simp[reachBytes] at Y;simp;omega
end
theorem law_lifted_tied {H:Type}{enc:TypeId×Value->H}{C:Checked}{os:Os}{f:FuncId}{fn:Func}{s:ChangeSpec}{t:TypeId}{ts:List TypeId}
  (own:ownKnob C.prog.godebug=none) (m:os.Started) (hl:laidOutB C.prog=true) (r:C.prog.inits.idxOf? f=none) (V:C.prog.funcs[f]? =some fn)
  (o:fn.params.toList=ts) (a:z2Y C.prog ts=true) (b:fn.resultTypes=#[t]) (X:C.prog.underlying t=some .bool) (y:s.vars=[])
  (Z:(laid.all λx=>x.2.handleName?.isNone)=true)
  (c:∀d:List (DataW H),d.length=ts.length->s.fn H d={results:=[.lit (.bool true)],args:=d})
  (n:∃(w:World)(tape:Tape) (i:Input),w.os=os/\(w.forCall tape i).Shaped C.prog/\i.vars=[]/\Input.okWide C.prog (w.forCall tape i) .any w.heap.size f i/\
   ((s.pre enc C.prog fn [] false (w.forCall tape i).memory i.args/\laidMetH C.prog laid (w.forCall tape i).memory)/\sizedMet enc C.prog fn (OpenSpec.ofChange s) false (w.forCall tape i).memory i.args)/\({}:Assume).holds C.prog (lone (Frame.enter C.prog f i.args .normal) [] (w.forCall tape i)))
  (J:∀(W:World)(z:Nat) (args:List Value) (d:List (DataW H)) (ps:List MemPlace),W.ShapedOpen C.prog->laidMet C.prog laid W->
   (∀(j:Nat) t v,ts[j]? =some t->args[j]? =some v->Value.okWide C.prog W .any z t v)->
   DataW.TrodAll enc C.prog W 0 (λ_=>true) true ts args d ps->W.noneFrozen ps->
   (DataW.weightsEach C.prog ts d).all (·<=reachBytes)=true->
   SG C.prog f args W λv w'=>v= .bool true/\Ext W w'):
  ReturnsInHanded {} C os f .any (λw args=>(s.pre enc C.prog fn [] false w args/\laidMetH C.prog laid w)/\sizedMet enc C.prog fn (OpenSpec.ofChange s) false w args) (s.post enc C.prog fn false true false false):=by
 refine returnsInHanded_of_calls own m r n ?_
 intro w tape i _ g _ Y I R
 obtain⟨_,_,_,A,E,_,_,_,_,M⟩:=Y
 have e:A=fn:=y1i (E.symm.trans V)
 subst e
 obtain⟨⟨⟨d,gs,N,P,hc⟩,S⟩,hz⟩:=I
 have L:=DataW.Whole.of_heap (w':=w.forCall tape i) (by rfl) P
 have U:=L
 have u:(DataW.weightsEach C.prog (A.params.toList++s.plain.varTypes C.prog) (d++gs)).all (·<=reachBytes)=true:=hz.weights P
 obtain⟨p,q,O,K,rfl,F,_⟩:=L
 rw[y] at K
 obtain⟨rfl,rfl⟩:=trodVars_none K
 rw[o] at O
 have l:=z3q O
 have k:(DataW.weightsEach C.prog ts d).all (·<=reachBytes)=true:=by
  have B:s.plain.varTypes C.prog=[]:=by simp[ChangeSpec.plain,DataSpec.varTypes,y]
  rw[o,B,y0q,y0q] at u;exact u
 have T:laidMet C.prog laid (w.forCall tape i):=by
  rw[MakeChecks.laidMetH_plain _ _ _ Z] at S;exact S.of_heap (by rfl)
 have hr:=J _ w.heap.size i.args.toList d p g T (λj t v G Q=>M j t v (by rw[<-o] at G;simpa using G) (by simpa using Q)) O (by rw[y0q] at F;exact F) k
 unfold SG at hr;rw[y3n] at hr
 refine y1P hr λx W' ⟨v,S,B,D⟩=>?_
 subst S;subst B
 have bel:=D.below
 refine ChangeSpec.post_blind ⟨d,[],p++[],[],p,[],U,?_,?_,?_,bel.frame _,λh=>by cases h⟩
 ·rw[y0q,c d l,b];exact trodAll_mk1 (shut_bool X _)
 ·rw[y0q,c d l,o];exact z1s hl bel a O
 ·rw[y,y0q,c d l]
  rfl
def pair_cells {cs:Array Value}{f0 f1:Field}{e f:IntKind}{a b:Int}{p:List MemPlace}(u:P.underlying t=some (.struct #[f0,f1]))(q:P.cellsOf t=2)(v:f0.offset=0)(z:f1.offset=1)
  (c0:P.cellsOf f0.type=1) (c1:P.cellsOf f1.type=1) (A:P.underlying f0.type=some (.int e)) (D:P.underlying f1.type=some (.int f))
  (r:DataW.trod (λ_=>()) P W 0 (λ_=>true) false fuel t cs.toList=some (.agg [.lit (.int e a),.lit (.int f b)],p)):cs.toList=[.int e a,.int f b]:=by
 obtain⟨H,I,n,l,h,m,o⟩:=trod_struct2 u r
 obtain⟨E,c,rfl,-⟩:=y1I A m
 obtain⟨F,d,rfl,-⟩:=y1I D o
 rw[q] at h
 rw[v,c0] at c
 rw[z,c1] at d
 simp at l
 obtain⟨⟨rfl,rfl⟩,-⟩:=l
 match hcs:cs.toList,h with
 | [x, y], _ =>
   rw[hcs] at c d;simp at c d;rw[c,d]
theorem zc6 {n:String}{g T:Nat}{cs:Array Value}{l:List Value}(p:W.ShapedOpen P)(h:g<P.globals.size)(d:(((begin P (λ_ _=>0) default).world.heap[g]?).bind Obj.row?).map (·.2)=some T)(hg:P.globalNamed n=some g)(o:W.var? P n=some cs)(f:cs.toList=l):Sk W g l T:=by
 cases hr:((begin P (λ_ _=>0) default).world.heap[g]?).bind Obj.row? with
 |none=>rw[hr] at d;cases d
 | some x =>
   obtain⟨z,t⟩:=x;rw[hr] at d;obtain rfl:t=T:=y1i d;obtain⟨c,m,-,-⟩:=p.1 g z t h hr;simp only[World.var?,hg,y38,m] at o;have q:c=cs:=by simpa using o
   subst q;refine⟨(0,0),by rw[m,<-f],λi _ e=>by simp at e⟩
def laid_two (c:laid=[("wattle/list.gamma",.agg [.lit (.int .u8 1),.lit (.int .u64 0)]),("wattle/list.unary",.agg [.lit (.int .u8 0),.lit (.int .u64 0)])])(v:W.ShapedOpen prog)(h:laidMet prog laid W):Sk W 1 [.int .u8 1,.int .u64 0] 314/\Sk W 2 [.int .u8 0,.int .u64 0] 314:=by
 subst c
 obtain⟨ps,f,-,hB⟩:=h
 obtain⟨F,t0,x,l,p0,J,d,p,r,n,f,D⟩:=f
 obtain⟨H,t1,y,m,I,M,e,q,u,o,f,E⟩:=f
 obtain rfl:=y1i ((show prog.globalNamed "wattle/list.gamma"=some 1 by kernel_rfl).symm.trans d)
 obtain rfl:=y1i ((show prog.globalNamed "wattle/list.unary"=some 2 by kernel_rfl).symm.trans e)
 obtain rfl:=y1i ((show(prog.globals[1]?).map (·.type)=some 314 by kernel_rfl).symm.trans p)
 obtain rfl:=y1i ((show(prog.globals[2]?).map (·.type)=some 314 by kernel_rfl).symm.trans q)
 have z:=pair_cells underlying314 y00 O O y00 y00 underlying5 underlying39 n
 have A:=pair_cells underlying314 y00 O O y00 y00 underlying5 underlying39 o
 exact⟨zc6 v (show 1<prog.globals.size from of_decide_eq_true y00) y00 d r z,zc6 v (show 2<prog.globals.size from of_decide_eq_true y00) y00 e u A⟩
noncomputable def limWorld (os:Os):World:=
 let c:=World.holding prog os ⟨#[],#[],[]⟩
 { c with heap := c.heap.modify 1 fun
   | .cells _ t frozen=> .cells #[.int .u8 1,.int .u64 0] t frozen
   |o=>o}
end Go.Proofs.YtbihggbffaigjaaGreatDoor
