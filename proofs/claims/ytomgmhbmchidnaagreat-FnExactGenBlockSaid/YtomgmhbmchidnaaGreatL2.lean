/- Part L2 of the proof: contracts of functions of the program, each walked once. -/
import Derived.Test.YtomgmhbmchidnaaGreatL1
import Derived.Deep.RegionWith
set_option linter.all false
namespace Go.Gv
open Go.Av Go.Proofs Go.RowKit
set_option maxRecDepth 100000
set_option maxHeartbeats 4000000
theorem UnOk.unique {p:Pg} {u u':Un} (h:UnOk p u) (h':UnOk p u'):u.vs=u'.vs/\u.ts=u'.ts:=⟨Asc.unique h.v h'.v fun s=>by rw[h.vi,h'.vi],Asc.unique h.t h'.t fun s=>by rw[h.ti,h'.ti]⟩
theorem GenIs.unique {p:Pg} {fn:Int} {l:List Sm} {c c':List Ik} (h:GenIs p fn l c) (h':GenIs p fn l c'):c=c':=by
 by_cases hc:CheckIs p 0/\BodyP l∧-1<=fn/\fn < p.fns.length
 ·obtain ⟨u,hu,e⟩:=h.1 hc
  obtain ⟨u',hu',e'⟩:=h'.1 hc;obtain ⟨e1,e2⟩:=hu.unique hu';rw[e,e',Un.g,Un.g,e1,e2]
 ·rw[h.2 hc,h'.2 hc]
theorem ML0 {p:Pg} (hr:CheckIs p 0):p.good:=by rcases hr with ⟨_,h⟩ | ⟨h,_⟩ | ⟨h,_⟩ | ⟨h,_⟩ | ⟨h,_⟩<;>first | exact h|(exfalso;omega)
theorem uF1 {p:Pg} {fn:Int} {l:List Sm} (hz:l.length+Sm.szs l<=1048576) (h:CheckIs p 0/\BodyP l∧-1<=fn/\fn < p.fns.length) (u:Un):((u.g p fn).lc operS l).length<=33554432:=by
 have hg:=ML0 h.1;have h1:=uB1 (O:=operS) (E:=u.g p fn) (fun f hf=>by
  obtain ⟨i,hi⟩:=List.mem_iff_getElem?.1 hf;exact (hg.2.1 i f hi).2.2.1.2) l (fun y hy=>(h.2.1.1 y hy).1.sk y (by have:=Sm.szs_mem hy;omega))
 have h2:=Sm.ws_le l;omega
theorem rG1 {p:Pg} {fn:Int} {l:List Sm} {c:List Ik} (hz:l.length+Sm.szs l<=1048576) (h:GenIs p fn l c):c.length<=33554432:=by
 by_cases hc:CheckIs p 0/\BodyP l∧-1<=fn/\fn < p.fns.length
 ·obtain ⟨u,hu,e⟩:=h.1 hc
  rw[e]
  split
  ·simp
  ·exact uF1 hz hc u
 ·rw[h.2 hc];simp
theorem OwnP.lt {S:Nat->Prop} {w:World} {p:Pg} {u1 u2:Value} {o1 o2:List Nat} (h:OwnP S w p u1 u2 o1 o2):∀b∈o1++o2,b < w.heap.size:=fun b hb=>(List.mem_append.1 hb).elim (RepL.lt _ _ _ h.r1 b) (RepL.lt _ _ _ h.r2 b)
theorem OwnS.lt {S:Nat->Prop} {w:World} {l:List Sm} {u:Value} {o:List Nat} (h:OwnS S w l u o):∀b∈o,b < w.heap.size:=RepL.lt _ _ _ h.r
theorem BxW.al (w:World) (a b:Value) (t:TypeId):BxW (w.alloc (.cells #[a,b] t)) w.heap.size a b:=⟨by rw[World.size_alloc];omega,by rw[vP0];rfl,by rw[vP0];rfl⟩
theorem MG0 (w:World):Keeps [] w w.drew:=⟨rfl,rfl,rfl,Nat.le_refl _,fun _ _ _=>rfl⟩
theorem law_main (p:Pg) (fn:Int) (l:List Sm) (hp:p.Wf) (hl:l.length<=maxLen) (hlw:∀e∈l,e.Wf) (W:World) (v0 xv:Value) (hv:RepV (EA W) (pI p) v0 []) (hx:RepV (EA W) (sI l) xv []) :
  Calls Tryz.prog 3 #[v0,.int .i64 fn,xv] W fun e w'=>e=.returned (.bool true)/\Keeps [] W w':=by
 have q1:=zH0 p.sz 1048576;have q2:=zH0 (l.length+Sm.szs l) (szF p.sz 1048576);have q3:=zH0 (l.length+Sm.szs l) (1048576 - (p.sz:Int));obtain ⟨r0,f0,oo1,oo2,rfl,hoo,hr0,hf0⟩:=zP1 hv;obtain ⟨⟨ad1,cap1,rfl,-⟩,-⟩:=id hr0;obtain ⟨⟨ad2,cap2,rfl,-⟩,-⟩:=id hf0;have hx0:=jG0 hx;obtain ⟨⟨ad3,cap3,rfl,-⟩,-⟩:=id hx0;clear hr0 hf0 hoo hx0;generalize (p.rules.map Ru.t).length=N1 at *;generalize (p.fns.map Fu.t).length=N2 at *
 generalize (l.map Sm.t).length=N3 at *;have t0:=rX0 W (.cells #[.slice ad1 N1 cap1,.slice ad2 N2 cap2] 25);have b0:BxW (W.alloc (.cells #[.slice ad1 N1 cap1,.slice ad2 N2 cap2] 25)) W.heap.size (.slice ad1 N1 cap1) (.slice ad2 N2 cap2):=⟨by rw[World.size_alloc];omega,by rw[vP0];rfl,by rw[vP0];rfl⟩
 have hSpec:=fun (h1:p.sz<=1048576) (h2:l.length+Sm.szs l<=1048576)=>hZ0 (I:=@id) rfl p fn l h1 h2 (fun hc u _=>by have:=uF1 h2 hc u;omega)
 have hImpl:=fun (h1:p.sz<=1048576) (h2:l.length+Sm.szs l<=1048576)=>gA0 (I:=@id) rfl p fn l h1 h2
 go_enter Tryz.func3,Tryz.ntmps3
 go_wp2_with (first
  | (go_at_call 12;refine (VP0 (HG0 (I:=@id) rfl c8 (by omega)) (sl1 G8.read (sl1 F8.read slots_nil))).mono ?_;rintro e w9 ⟨rfl,k9⟩;have t9:=kt t8 k9;have b9:=b8.keeps k9 (by simp);have b9c0:=b9.c0;have b9c1:=b9.c1;have F9:=F8.keeps k9 (by simp);have p9:=p8.keeps k9;have x9:=x8.keeps k9 (by simp);have x9c0:=x9.c0;have x9c1:=x9.c1;have s9:=s8.keeps k9 (fun _ h=>h.elim) (by simp);have G9:=G8.keeps k9 (by simp))
  | (go_at_call 11;refine (qZ1 (hImpl (by omega) (by omega)) p7.read s7.read).mono ?_;rintro e w8 ⟨c8,g8,o8,hc8,rfl,k8,G8,n8⟩;have t8:=kt t7 k8;have b8:=b7.keeps k8 (by simp);have b8c0:=b8.c0;have b8c1:=b8.c1;have F8:=F7.keeps k8 (by simp);have p8:=p7.keeps k8;have x8:=x7.keeps k8 (by simp);have x8c0:=x8.c0;have x8c1:=x8.c1;have s8:=s7.keeps k8 (fun _ h=>h.elim) (by simp);have e8:=hc8.unique hc5;subst e8)
  | (go_at_call 10;have kA:=rX0 w6 (.cells #[.slice a6a n6a c6a,.slice a6b n6b c6b] 34);have tA:=kt t6 kA;have bA:=b6.keeps kA (by simp);have xA:=BxW.al w6 (.slice a6a n6a c6a) (.slice a6b n6b c6b) 34;have FA:=F6.keeps kA (by simp);have pA:=p6.keeps kA;refine (vL1 l (by omega) (wF0 tA hx)).mono ?_;rintro e w7 ⟨y7,o7,rfl,k7,s7,n7⟩;have t7:=kt tA k7;have b7:=bA.keeps k7 (by simp);have b7c0:=b7.c0;have b7c1:=b7.c1;have F7:=FA.keeps k7 (by simp);have p7:=pA.keeps k7;have x7:=xA.keeps k7 (by simp);have x7c0:=x7.c0;have x7c1:=x7.c1)
  | (go_at_call 9;refine (vM1 p (by omega) (wF0 t5 hv)).mono ?_;rintro e w6 ⟨a6a,n6a,c6a,a6b,n6b,c6b,o6a,o6b,rfl,k6,p6,n6⟩;have t6:=kt t5 k6;have b6:=b5.keeps k6 (by simp);have b6c0:=b6.c0;have b6c1:=b6.c1;have F6:=F5.keeps k6 (by simp))
  | (go_at_call 8;refine (qZ1 (hSpec (by omega) (by omega)) z4.read v4.read).mono ?_;rintro e w5 ⟨c5,g5,o5,hc5,rfl,k5,F5,n5⟩;have t5:=kt t4 k5;have b5:=b4.keeps k5 (by simp);have b5c0:=b5.c0;have b5c1:=b5.c1;have hl5:=rG1 (by omega) hc5)
  | (go_at_call 10;refine (vL1 l (by omega) (wF0 t3 hx)).mono ?_;rintro e w4 ⟨y4,o4,rfl,k4,v4,n4⟩;have t4:=kt t3 k4;have b4:=b3.keeps k4 (by simp);have b4c0:=b4.c0;have b4c1:=b4.c1;have z4:=z3.keeps k4)
  | (go_at_call 9;refine (vM1 p (by omega) (wF0 t2 hv)).mono ?_;rintro e w3 ⟨a3a,n3a,c3a,a3b,n3b,c3b,o3a,o3b,rfl,k3,z3,n3⟩;have t3:=kt t2 k3;have b3:=b2.keeps k3 (by simp);have b3c0:=b3.c0;have b3c1:=b3.c1)
  | (go_at_call 7;refine (kK1 (VQ0 (I:=@id) rfl l hl hlw _ ⟨by omega,by omega⟩) (sl1 (wF0 t1 hx) (sli slots_nil))).mono ?_;rintro e w2 ⟨rfl,k2⟩;have t2:=kt t1 k2;have b2:=b1.keeps k2 (by simp);have b2c0:=b2.c0;have b2c1:=b2.c1)
  | (go_at_call 6;refine (kK1 (pF1 (I:=@id) rfl p hp 1048576 ⟨by decide,by decide⟩) (sl1 (wF0 t0 hv) (sli slots_nil))).mono ?_;rintro e w1 ⟨rfl,k1⟩;have t1:=kt t0 k1;have b1:=b0.keeps k1 (by simp);have b1c0:=b1.c0;have b1c1:=b1.c1))
 ·go_ret
  exact ⟨rfl,t1⟩
 ·go_ret
  exact ⟨rfl,t2⟩
 have kD:=MG0 w9;have tD:=kt t9 kD;have bD:=b9.keeps kD (by simp)
 have bDc0:=bD.c0;have bDc1:=bD.c1;have FD:=F9.keeps kD (by simp)
 have pD:=p9.keeps kD;have xD:=x9.keeps kD (by simp)
 have xDc0:=xD.c0;have xDc1:=xD.c1;have sD:=s9.keeps kD (fun _ h=>h.elim) (by simp)
 have GD:=G9.keeps kD (by simp)
 go_region_with (first
  | (go_at_call 13;refine (VP0 (nG1 (I:=@id) rfl p (by omega)) (sl1 p10.read (sl1 z10.read slots_nil))).mono ?_;rintro e w11 ⟨rfl,k11⟩;have t11:=kt t10 k11;have b11:=b10.keeps k11 (by simp);have b11c0:=b11.c0;have b11c1:=b11.c1;have F11:=F10.keeps k11 (by simp);have p11:=p10.keeps k11;have x11:=x10.keeps k11 (by simp);have x11c0:=x11.c0;have x11c1:=x11.c1;have s11:=s10.keeps k11 (fun _ h=>h.elim) (by simp);have G11:=G10.keeps k11 (by simp))
  | (go_at_call 9;refine (vM1 p (by omega) (wF0 tD hv)).mono ?_;rintro e w10 ⟨a10a,n10a,c10a,a10b,n10b,c10b,o10a,o10b,rfl,k10,z10,n10⟩;have t10:=kt tD k10;have b10:=bD.keeps k10 (by simp);have b10c0:=b10.c0;have b10c1:=b10.c1;have F10:=FD.keeps k10 (by simp);have p10:=pD.keeps k10;have x10:=xD.keeps k10 (by simp);have x10c0:=x10.c0;have x10c1:=x10.c1;have s10:=sD.keeps k10 (fun _ h=>h.elim) (by simp);have G10:=GD.keeps k10 (by simp)))
 all_goals (
  go_wp2_with (first
   | (go_at_call 18;refine (yH1 M22 (by omega)).mono ?_;rintro e w23 ⟨rfl,k23⟩;have t23:=kt t22 k23;have b23:=b22.keeps k23 (by simp);have b23c0:=b23.c0;have b23c1:=b23.c1;have F23:=F22.keeps k23 (by simp);have M23:=M22.keeps k23)
   | (go_at_call 12;refine (VP0 (HG0 (I:=@id) rfl c21 (by omega)) (sl1 H21.read (sl1 F21.read slots_nil))).mono ?_;rintro e w22 ⟨rfl,k22⟩;have t22:=kt t21 k22;have b22:=b21.keeps k22 (by simp);have b22c0:=b22.c0;have b22c1:=b22.c1;have F22:=F21.keeps k22 (by simp);have M22:=M21.keeps k22)
   | (go_at_call 11;refine (qZ1 (hImpl (by omega) (by omega)) z20.read v20.read).mono ?_;rintro e w21 ⟨c21,g21,o21,hc21,rfl,k21,H21,n21⟩;have t21:=kt t20 k21;have b21:=b20.keeps k21 (by simp);have b21c0:=b21.c0;have b21c1:=b21.c1;have F21:=F20.keeps k21 (by simp);have M21:=M20.keeps k21;have e21:=hc21.unique hc5;subst e21)
   | (go_at_call 10;refine (vL1 l (by omega) (wF0 t19 hx)).mono ?_;rintro e w20 ⟨y20,o20,rfl,k20,v20,n20⟩;have t20:=kt t19 k20;have b20:=b19.keeps k20 (by simp);have b20c0:=b20.c0;have b20c1:=b20.c1;have F20:=F19.keeps k20 (by simp);have M20:=M19.keeps k20;have z20:=z19.keeps k20)
   | (go_at_call 9;refine (vM1 p (by omega) (wF0 t18 hv)).mono ?_;rintro e w19 ⟨a19a,n19a,c19a,a19b,n19b,c19b,o19a,o19b,rfl,k19,z19,n19⟩;have t19:=kt t18 k19;have b19:=b18.keeps k19 (by simp);have b19c0:=b19.c0;have b19c1:=b19.c1;have F19:=F18.keeps k19 (by simp);have M19:=M18.keeps k19)
   | (go_at_call 18;refine (yH1 M17 (by omega)).mono ?_;rintro e w18 ⟨rfl,k18⟩;have t18:=kt t17 k18;have b18:=b17.keeps k18 (by simp);have b18c0:=b18.c0;have b18c1:=b18.c1;have F18:=F17.keeps k18 (by simp);have M18:=M17.keeps k18)
   | (go_at_call 17;refine (qY1 G16 (by omega)).mono ?_;rintro e w17 ⟨rfl,k17,M17⟩;have t17:=kn t16 k17 (fun x hx=>by have:=n8 x hx;omega);have b17:=b16.keeps k17 (fun h=>by have:=n8 _ h;omega);have b17c0:=b17.c0;have b17c1:=b17.c1;have F17:=F16.keeps k17 (fun b hb h=>by have:=n8 b h;have:=l5 b hb;omega))
   | (go_at_call 12;refine (VP0 (HG0 (I:=@id) rfl c8 (by omega)) (sl1 G15.read (sl1 F15.read slots_nil))).mono ?_;rintro e w16 ⟨rfl,k16⟩;have t16:=kt t15 k16;have b16:=b15.keeps k16 (by simp);have b16c0:=b16.c0;have b16c1:=b16.c1;have F16:=F15.keeps k16 (by simp);have G16:=G15.keeps k16 (by simp))
   | (go_at_call 16;refine (qW1 l (by omega) s14 n14 hn14).mono ?_;rintro e w15 ⟨n15,hn15,rfl,k15⟩;have t15:=kn t14 k15 (fun x hx=>by have:=n7 x hx;omega);have b15:=b14.keeps k15 (fun h=>by have:=n7 _ h;omega);have b15c0:=b15.c0;have b15c1:=b15.c1;have F15:=F14.keeps k15 (fun b hb h=>by have:=n7 b h;have:=l5 b hb;omega);have G15:=G14.keeps k15 (fun b hb h=>by have:=l7 b h;have:=n8 b hb;omega))
   | (go_at_call 15;refine (qX1 p (by omega) p13).mono ?_;rintro e w14 ⟨n14,hn14,rfl,k14⟩;have h5:=t5.size;have h56:=k6.size;have h6A:=kA.size;have hA7:=k7.size;have hB:=b5.lt;have l6:=p6.lt;have l7:=s7.lt;have l5:=F5.lt;have l8:=G8.lt;have t14:=kn t13 k14 (fun x hx=>by have:=n6 x hx;omega);have b14:=b13.keeps k14 (fun h=>by have:=n6 _ h;omega);have b14c0:=b14.c0;have b14c1:=b14.c1;have F14:=F13.keeps k14 (fun b hb h=>by have:=n6 b h;have:=l5 b hb;omega);have G14:=G13.keeps k14 (fun b hb h=>by have:=l6 b h;have:=n8 b hb;omega);have s14:=s13.keeps k14 (fun _ h=>h.elim) (fun b hb h=>by have:=l6 b h;have:=n7 b hb;omega))
   | (go_at_call 14;refine (VP0 (UA0 (I:=@id) rfl l (by omega)) (sl1 s12.read (sl1 v12.read slots_nil))).mono ?_;rintro e w13 ⟨rfl,k13⟩;have t13:=kt t12 k13;have b13:=b12.keeps k13 (by simp);have b13c0:=b13.c0;have b13c1:=b13.c1;have F13:=F12.keeps k13 (by simp);have p13:=p12.keeps k13;have x13:=x12.keeps k13 (by simp);have x13c0:=x13.c0;have x13c1:=x13.c1;have s13:=s12.keeps k13 (fun _ h=>h.elim) (by simp);have G13:=G12.keeps k13 (by simp))
   | (go_at_call 10;refine (vL1 l (by omega) (wF0 t11 hx)).mono ?_;rintro e w12 ⟨y12,o12,rfl,k12,v12,n12⟩;have t12:=kt t11 k12;have b12:=b11.keeps k12 (by simp);have b12c0:=b12.c0;have b12c1:=b12.c1;have F12:=F11.keeps k12 (by simp);have p12:=p11.keeps k12;have x12:=x11.keeps k12 (by simp);have x12c0:=x12.c0;have x12c1:=x12.c1;have s12:=s11.keeps k12 (fun _ h=>h.elim) (by simp);have G12:=G11.keeps k12 (by simp)))
  go_ret
  exact ⟨rfl,t23⟩)
end Go.Gv
