/- Part E3 of the proof: contracts of functions of the program, each walked once. -/
import Derived.Test.YtjeejieaalnbeaaGreatE0
import Derived.Test.YtjeejieaalnbeaaGreatQ1
import Derived.Test.YtjeejieaalnbeaaGreatK1
set_option linter.all false
namespace Go.Gv
open Go.Av Go.Proofs
set_option maxRecDepth 10000
theorem Ce.cs (x:Ce):∃xRefs xVK xVN xVS,x.t=[T.lit (.int .i64 xRefs),T.lit (.int .i64 xVK),T.lit (.int .i64 xVN),T.lit (.string xVS)]/\x.ow=[A.lit (.int .i64 xRefs),A.lit (.int .i64 xVK),A.lit (.int .i64 xVN),A.lit (.string xVS)]:=by
 obtain ⟨xRefs,⟨xVK,xVN,xVS⟩⟩:=x;exact ⟨xRefs,xVK,xVN,xVS,by simp only[Ce.t,Ce.ow,Vl.t,Vl.ow,List.map,List.cons_append,List.nil_append,List.append_nil,tA],by simp only[Ce.t,Ce.ow,Vl.t,Vl.ow,List.map,List.cons_append,List.nil_append,List.append_nil,tA]⟩
theorem Ce.szF:SzF Ce.szs Ce.sz:=szF_of rfl Ce.szs_app Ce.szs_one
theorem Me.cs (x:Me):∃xKey xRef,x.t=[T.lit (.string xKey),T.lit (.int .i64 xRef)]/\x.ow=[A.lit (.string xKey),A.lit (.int .i64 xRef)]:=by
 obtain ⟨xKey,xRef⟩:=x;exact ⟨xKey,xRef,by simp only[Me.t,Me.ow,List.map,List.cons_append,List.nil_append,List.append_nil,tA],by simp only[Me.t,Me.ow,List.map,List.cons_append,List.nil_append,List.append_nil,tA]⟩
theorem Me.szF:SzF Me.szs Me.sz:=szF_of rfl Me.szs_app Me.szs_one
theorem Mt.cs (x:Mt):∃xL,x.t=[T.sl xL]/\x.ow=[A.ow (0,0) 2 xL]:=by
 obtain ⟨xL⟩:=x;exact ⟨xL.map Me.t,by simp only[Mt.t,Mt.ow,List.map,List.cons_append,List.nil_append,List.append_nil,tA],by simp only[Mt.t,Mt.ow,List.map,List.cons_append,List.nil_append,List.append_nil,tA]⟩
theorem Mt.szF:SzF Mt.szs Mt.sz:=szF_of rfl Mt.szs_app Mt.szs_one
theorem Sl.cs (x:Sl):∃xNum xN,x.t=[T.lit (.bool xNum),T.lit (.int .i64 xN)]/\x.ow=[A.lit (.bool xNum),A.lit (.int .i64 xN)]:=by
 obtain ⟨xNum,xN⟩:=x;exact ⟨xNum,xN,by simp only[Sl.t,Sl.ow,List.map,List.cons_append,List.nil_append,List.append_nil,tA],by simp only[Sl.t,Sl.ow,List.map,List.cons_append,List.nil_append,List.append_nil,tA]⟩
theorem La.cs (x:La):∃xLoop xPc xHeight xIters xRes,x.t=[T.lit (.bool xLoop),T.lit (.int .i64 xPc),T.lit (.int .i64 xHeight),T.lit (.int .i64 xIters),T.lit (.int .i64 xRes)]/\x.ow=[A.lit (.bool xLoop),A.lit (.int .i64 xPc),A.lit (.int .i64 xHeight),A.lit (.int .i64 xIters),A.lit (.int .i64 xRes)]:=by
 obtain ⟨xLoop,xPc,xHeight,xIters,xRes⟩:=x;exact ⟨xLoop,xPc,xHeight,xIters,xRes,by simp only[La.t,La.ow,List.map,List.cons_append,List.nil_append,List.append_nil,tA],by simp only[La.t,La.ow,List.map,List.cons_append,List.nil_append,List.append_nil,tA]⟩
theorem It.cs (x:It):∃xKeys xAt,x.t=[T.sl xKeys,T.lit (.int .i64 xAt)]/\x.ow=[A.ow (0,0) 1 xKeys,A.lit (.int .i64 xAt)]:=by
 obtain ⟨xKeys,xAt⟩:=x;exact ⟨xKeys.map intT,xAt,by simp only[It.t,It.ow,List.map,List.cons_append,List.nil_append,List.append_nil,tA],by simp only[It.t,It.ow,List.map,List.cons_append,List.nil_append,List.append_nil,tA]⟩
theorem It.szF:SzF It.szs It.sz:=szF_of rfl It.szs_app It.szs_one
theorem c_szVal (x:Vl) (hw:x.Wf):SzOk 149 (fun left=>[agT x.t,litI left]) x.sz:=by
 intro left hleft;have g1:=hw.s;clear hw;obtain ⟨S,hS⟩:=qX x.sz;rw[<-hS];simp only[Vl.sz] at hS;obtain ⟨xK,xN,xS⟩:=x;simp only[SzOk,roT,agT,Vl.t,Vl.ow,List.map,List.cons_append,List.nil_append,List.append_nil,tA] at *;refine qF tyK Tryz.func149 13 [.tmp 4] ?_;unhygienic intros;have j1:=szStr hO g1;exact qSz
theorem c_toVal (x:Vl) (hz:x.sz<=1048576):ToOk 163 [agT x.t] ⟨.agg,x.ow⟩:=by
 clear hz;obtain ⟨xK,xN,xS⟩:=x;simp only[ToOk,EqOk,roT,agT,Vl.t,Vl.ow,List.map,List.cons_append,List.nil_append,List.append_nil,tA] at *;refine qF tyK Tryz.func163 14 [.cell 2 97] ?_;unhygienic intros;exact qTo
theorem c_eqVal (x:Vl) (hz:x.sz<=1048576):EqOk 181 (agT x.t):=by
 clear hz;obtain ⟨xK,xN,xS⟩:=x;simp only[ToOk,EqOk,roT,agT,Vl.t,Vl.ow,List.map,List.cons_append,List.nil_append,List.append_nil,tA] at *;refine qF tyK Tryz.func181 20 [.tmp 4] ?_;unhygienic intros;exact qTo
theorem c_szCell (x:Ce) (hw:x.Wf):SzOk 103 (fun left=>[agT x.t,litI left]) x.sz:=by
 intro left hleft;have i1:=c_szVal x.v hw.v;clear hw;obtain ⟨S,hS⟩:=qX x.sz;rw[<-hS];simp only[Ce.sz] at hS;obtain ⟨xRefs,⟨xVK,xVN,xVS⟩⟩:=x;simp only[SzOk,roT,agT,Ce.t,Ce.ow,Vl.t,Vl.ow,List.map,List.cons_append,List.nil_append,List.append_nil,tA] at *;refine qF tyK Tryz.func103 12 [.tmp 4] ?_;unhygienic intros;exact qSz
theorem c_toCell (x:Ce) (hz:x.sz<=1048576):ToOk 121 [agT x.t] ⟨.agg,x.ow⟩:=by
 simp only[Ce.sz] at hz;have i1:=c_toVal x.v (by omega)
 clear hz;obtain ⟨xRefs,⟨xVK,xVN,xVS⟩⟩:=x;simp only[ToOk,EqOk,roT,agT,Ce.t,Ce.ow,Vl.t,Vl.ow,List.map,List.cons_append,List.nil_append,List.append_nil,tA] at *;refine qF tyK Tryz.func121 12 [.cell 2 186] ?_;unhygienic intros;exact qTo
theorem c_eqCell (x:Ce) (hz:x.sz<=1048576):EqOk 142 (agT x.t):=by
 simp only[Ce.sz] at hz;have i1:=c_eqVal x.v (by omega)
 clear hz;obtain ⟨xRefs,⟨xVK,xVN,xVS⟩⟩:=x;simp only[ToOk,EqOk,roT,agT,Ce.t,Ce.ow,Vl.t,Vl.ow,List.map,List.cons_append,List.nil_append,List.append_nil,tA] at *;refine qF tyK Tryz.func142 16 [.tmp 4] ?_;unhygienic intros;exact qTo
theorem szCells (l:List Ce) (hl:l.length<=maxLen) (h:∀e∈l,Ce.Wf e):SzOk 56 (fun left=>[roT (l.map Ce.t),litI left]) (l.length+Ce.szs l):=by
 intro left hleft;have ih:=fun e he=>c_szCell e (h e he);clear h;obtain ⟨els,he⟩:=qX (l.map Ce.t);simp only[roT,<-he];have hk:KOf els 4:=by rw[he];exact kOf_map Ce.t_len l
 have hcs:=Ce.cs;have hsf:=Ce.szF;generalize Ce.szs=S at *;refine qF tyK Tryz.func56 27 [.tmp 4] ?_;unhygienic intros;exact qSzS
theorem toCells (l:List Ce) (hz:l.length+Ce.szs l<=1048576):ToOk 71 [roT (l.map Ce.t)] ⟨.one,[.ow (0,0) 4 (l.map Ce.t)]⟩:=by
 have hl:l.length<=1048576:=by omega
 have ih:=fun e (he:e∈l)=>c_toCell e (by have:=sum_mem (f:=Ce.sz) he;unfold Ce.szs at hz;omega)
 clear hz;obtain ⟨els,he⟩:=qX (l.map Ce.t);simp only[roT,<-he];have hk:KOf els 4:=by rw[he];exact kOf_map Ce.t_len l
 have hcs:=Ce.cs;have hz0:Zs [T.lit (.int .i64 0),T.lit (.int .i64 0),T.lit (.int .i64 0),T.lit (.string ⟨#[]⟩)]:=⟨trivial⟩;refine qF tyK Tryz.func71 23 [.tmp 2] ?_;unhygienic intros;exact qToS
theorem eqCells (l:List Ce) (hz:l.length+Ce.szs l<=1048576):EqOk 96 (roT (l.map Ce.t)):=by
 have hl:l.length<=1048576:=by omega
 have ih:=fun e (he:e∈l)=>c_eqCell e (by have:=sum_mem (f:=Ce.sz) he;unfold Ce.szs at hz;omega)
 clear hz;obtain ⟨els,he⟩:=qX (l.map Ce.t);simp only[roT,<-he];have hk:KOf els 4:=by rw[he];exact kOf_map Ce.t_len l
 have hcs:=Ce.cs;refine qF tyK Tryz.func96 27 [.tmp 4] ?_;unhygienic intros;exact qEqS
theorem c_szHeap (x:He) (hw:x.Wf):SzOk 20 (fun left=>[agT x.t,litI left]) x.sz:=by
 intro left hleft;have i1:=szCells x.cells hw.cells hw.cells';clear hw;obtain ⟨S,hS⟩:=qX x.sz;rw[<-hS];simp only[He.sz] at hS;obtain ⟨xCells⟩:=x;simp only[SzOk,roT,agT,He.t,He.ow,List.map,List.cons_append,List.nil_append,List.append_nil,tA] at *;generalize xCells.map Ce.t=tCells at *;refine qF tyK Tryz.func20 12 [.tmp 4] ?_;unhygienic intros;exact qSz
theorem c_toHeap (x:He) (hz:x.sz<=1048576):ToOk 32 [agT x.t] ⟨.agg,x.ow⟩:=by
 simp only[He.sz] at hz;have i1:=toCells x.cells (by omega)
 clear hz;obtain ⟨xCells⟩:=x;simp only[ToOk,EqOk,roT,agT,He.t,He.ow,List.map,List.cons_append,List.nil_append,List.append_nil,tA] at *;generalize xCells.map Ce.t=tCells at *;refine qF tyK Tryz.func32 9 [.cell 2 63] ?_;unhygienic intros;exact qTo
theorem c_eqHeap (x:He) (hz:x.sz<=1048576):EqOk 47 (agT x.t):=by
 simp only[He.sz] at hz;have i1:=eqCells x.cells (by omega)
 clear hz;obtain ⟨xCells⟩:=x;simp only[ToOk,EqOk,roT,agT,He.t,He.ow,List.map,List.cons_append,List.nil_append,List.append_nil,tA] at *;generalize xCells.map Ce.t=tCells at *;refine qF tyK Tryz.func47 11 [.tmp 4] ?_;unhygienic intros;exact qTo
theorem c_szMEntry (x:Me) (hw:x.Wf):SzOk 151 (fun left=>[agT x.t,litI left]) x.sz:=by
 intro left hleft;have g1:=hw.key;clear hw;obtain ⟨S,hS⟩:=qX x.sz;rw[<-hS];simp only[Me.sz] at hS;obtain ⟨xKey,xRef⟩:=x;simp only[SzOk,roT,agT,Me.t,Me.ow,List.map,List.cons_append,List.nil_append,List.append_nil,tA] at *;refine qF tyK Tryz.func151 13 [.tmp 4] ?_;unhygienic intros;have j1:=szStr hO g1;exact qSz
theorem c_toMEntry (x:Me) (hz:x.sz<=1048576):ToOk 165 [agT x.t] ⟨.agg,x.ow⟩:=by
 clear hz;obtain ⟨xKey,xRef⟩:=x;simp only[ToOk,EqOk,roT,agT,Me.t,Me.ow,List.map,List.cons_append,List.nil_append,List.append_nil,tA] at *;refine qF tyK Tryz.func165 11 [.cell 2 190] ?_;unhygienic intros;exact qTo
theorem c_eqMEntry (x:Me) (hz:x.sz<=1048576):EqOk 183 (agT x.t):=by
 clear hz;obtain ⟨xKey,xRef⟩:=x;simp only[ToOk,EqOk,roT,agT,Me.t,Me.ow,List.map,List.cons_append,List.nil_append,List.append_nil,tA] at *;refine qF tyK Tryz.func183 15 [.tmp 4] ?_;unhygienic intros;exact qTo
theorem szMEntrys (l:List Me) (hl:l.length<=maxLen) (h:∀e∈l,Me.Wf e):SzOk 104 (fun left=>[roT (l.map Me.t),litI left]) (l.length+Me.szs l):=by
 intro left hleft;have ih:=fun e he=>c_szMEntry e (h e he);clear h;obtain ⟨els,he⟩:=qX (l.map Me.t);simp only[roT,<-he];have hk:KOf els 2:=by rw[he];exact kOf_map Me.t_len l
 have hcs:=Me.cs;have hsf:=Me.szF;generalize Me.szs=S at *;refine qF tyK Tryz.func104 27 [.tmp 4] ?_;unhygienic intros;exact qSzS
theorem toMEntrys (l:List Me) (hz:l.length+Me.szs l<=1048576):ToOk 122 [roT (l.map Me.t)] ⟨.one,[.ow (0,0) 2 (l.map Me.t)]⟩:=by
 have hl:l.length<=1048576:=by omega
 have ih:=fun e (he:e∈l)=>c_toMEntry e (by have:=sum_mem (f:=Me.sz) he;unfold Me.szs at hz;omega)
 clear hz;obtain ⟨els,he⟩:=qX (l.map Me.t);simp only[roT,<-he];have hk:KOf els 2:=by rw[he];exact kOf_map Me.t_len l
 have hcs:=Me.cs;have hz0:Zs [T.lit (.string ⟨#[]⟩),T.lit (.int .i64 0)]:=⟨trivial⟩;refine qF tyK Tryz.func122 23 [.tmp 2] ?_;unhygienic intros;exact qToS
theorem eqMEntrys (l:List Me) (hz:l.length+Me.szs l<=1048576):EqOk 143 (roT (l.map Me.t)):=by
 have hl:l.length<=1048576:=by omega
 have ih:=fun e (he:e∈l)=>c_eqMEntry e (by have:=sum_mem (f:=Me.sz) he;unfold Me.szs at hz;omega)
 clear hz;obtain ⟨els,he⟩:=qX (l.map Me.t);simp only[roT,<-he];have hk:KOf els 2:=by rw[he];exact kOf_map Me.t_len l
 have hcs:=Me.cs;refine qF tyK Tryz.func143 27 [.tmp 4] ?_;unhygienic intros;exact qEqS
theorem c_szMTable (x:Mt) (hw:x.Wf):SzOk 57 (fun left=>[agT x.t,litI left]) x.sz:=by
 intro left hleft;have i1:=szMEntrys x.l hw.l hw.l';clear hw;obtain ⟨S,hS⟩:=qX x.sz;rw[<-hS];simp only[Mt.sz] at hS;obtain ⟨xL⟩:=x;simp only[SzOk,roT,agT,Mt.t,Mt.ow,List.map,List.cons_append,List.nil_append,List.append_nil,tA] at *;generalize xL.map Me.t=tL at *;refine qF tyK Tryz.func57 12 [.tmp 4] ?_;unhygienic intros;exact qSz
theorem c_toMTable (x:Mt) (hz:x.sz<=1048576):ToOk 72 [agT x.t] ⟨.agg,x.ow⟩:=by
 simp only[Mt.sz] at hz;have i1:=toMEntrys x.l (by omega)
 clear hz;obtain ⟨xL⟩:=x;simp only[ToOk,EqOk,roT,agT,Mt.t,Mt.ow,List.map,List.cons_append,List.nil_append,List.append_nil,tA] at *;generalize xL.map Me.t=tL at *;refine qF tyK Tryz.func72 9 [.cell 2 107] ?_;unhygienic intros;exact qTo
theorem c_eqMTable (x:Mt) (hz:x.sz<=1048576):EqOk 97 (agT x.t):=by
 simp only[Mt.sz] at hz;have i1:=eqMEntrys x.l (by omega)
 clear hz;obtain ⟨xL⟩:=x;simp only[ToOk,EqOk,roT,agT,Mt.t,Mt.ow,List.map,List.cons_append,List.nil_append,List.append_nil,tA] at *;generalize xL.map Me.t=tL at *;refine qF tyK Tryz.func97 11 [.tmp 4] ?_;unhygienic intros;exact qTo
theorem szMTables (l:List Mt) (hl:l.length<=maxLen) (h:∀e∈l,Mt.Wf e):SzOk 22 (fun left=>[roT (l.map Mt.t),litI left]) (l.length+Mt.szs l):=by
 intro left hleft;have ih:=fun e he=>c_szMTable e (h e he);clear h;obtain ⟨els,he⟩:=qX (l.map Mt.t);simp only[roT,<-he];have hk:KOf els 1:=by rw[he];exact kOf_map Mt.t_len l
 have hcs:=Mt.cs;have hsf:=Mt.szF;generalize Mt.szs=S at *;refine qF tyK Tryz.func22 27 [.tmp 4] ?_;unhygienic intros;exact qSzS
theorem toMTables (l:List Mt) (hz:l.length+Mt.szs l<=1048576):ToOk 34 [roT (l.map Mt.t)] ⟨.one,[.ow (0,0) 1 (l.map Mt.t)]⟩:=by
 have hl:l.length<=1048576:=by omega
 have ih:=fun e (he:e∈l)=>c_toMTable e (by have:=sum_mem (f:=Mt.sz) he;unfold Mt.szs at hz;omega)
 clear hz;obtain ⟨els,he⟩:=qX (l.map Mt.t);simp only[roT,<-he];have hk:KOf els 1:=by rw[he];exact kOf_map Mt.t_len l
 have hcs:=Mt.cs;have hz0:Zs [T.sl []]:=⟨trivial⟩;refine qF tyK Tryz.func34 23 [.tmp 2] ?_;unhygienic intros;exact qToS
theorem eqMTables (l:List Mt) (hz:l.length+Mt.szs l<=1048576):EqOk 49 (roT (l.map Mt.t)):=by
 have hl:l.length<=1048576:=by omega
 have ih:=fun e (he:e∈l)=>c_eqMTable e (by have:=sum_mem (f:=Mt.sz) he;unfold Mt.szs at hz;omega)
 clear hz;obtain ⟨els,he⟩:=qX (l.map Mt.t);simp only[roT,<-he];have hk:KOf els 1:=by rw[he];exact kOf_map Mt.t_len l
 have hcs:=Mt.cs;refine qF tyK Tryz.func49 27 [.tmp 4] ?_;unhygienic intros;exact qEqS
theorem c_szRec (x:Rc) (hw:x.Wf):SzOk 18 (fun left=>[agT x.t,litI left]) x.sz:=by
 intro left hleft;have i1:=szStrings x.fields hw.fields hw.fields';have g1:=hw.line;clear hw;obtain ⟨S,hS⟩:=qX x.sz;rw[<-hS];simp only[Rc.sz] at hS;obtain ⟨xLine,xFields⟩:=x;simp only[SzOk,roT,agT,Rc.t,Rc.ow,List.map,List.cons_append,List.nil_append,List.append_nil,tA] at *;generalize xFields.map strT=tFields at *;refine qF tyK Tryz.func18 19 [.tmp 4] ?_;unhygienic intros;have j1:=szStr hO g1;exact qSz
theorem c_toRec (x:Rc) (hz:x.sz<=1048576):ToOk 30 [agT x.t] ⟨.agg,x.ow⟩:=by
 simp only[Rc.sz] at hz;have i1:=toStrings x.fields (by omega)
 clear hz;obtain ⟨xLine,xFields⟩:=x;simp only[ToOk,EqOk,roT,agT,Rc.t,Rc.ow,List.map,List.cons_append,List.nil_append,List.append_nil,tA] at *;generalize xFields.map strT=tFields at *;refine qF tyK Tryz.func30 12 [.cell 2 57] ?_;unhygienic intros;exact qTo
theorem c_eqRec (x:Rc) (hz:x.sz<=1048576):EqOk 45 (agT x.t):=by
 simp only[Rc.sz] at hz;have i1:=eqStrings x.fields (by omega)
 clear hz;obtain ⟨xLine,xFields⟩:=x;simp only[ToOk,EqOk,roT,agT,Rc.t,Rc.ow,List.map,List.cons_append,List.nil_append,List.append_nil,tA] at *;generalize xFields.map strT=tFields at *;refine qF tyK Tryz.func45 16 [.tmp 4] ?_;unhygienic intros;exact qTo
theorem c_toSlot (x:Sl):ToOk 166 [agT x.t] ⟨.agg,x.ow⟩:=by
 obtain ⟨xNum,xN⟩:=x;simp only[ToOk,EqOk,roT,agT,Sl.t,Sl.ow,List.map,List.cons_append,List.nil_append,List.append_nil,tA] at *;refine qF tyK Tryz.func166 11 [.cell 2 268] ?_;unhygienic intros;exact qTo
theorem c_eqSlot (x:Sl):EqOk 184 (agT x.t):=by
 obtain ⟨xNum,xN⟩:=x;simp only[ToOk,EqOk,roT,agT,Sl.t,Sl.ow,List.map,List.cons_append,List.nil_append,List.append_nil,tA] at *;refine qF tyK Tryz.func184 15 [.tmp 4] ?_;unhygienic intros;exact qTo
theorem szSlots (l:List Sl) (hl:l.length<=maxLen):SzOk 105 (fun left=>[roT (l.map Sl.t),litI left]) l.length:=fun left hleft=>c_szSlotS l _ rfl hl left hleft
theorem toSlots (l:List Sl) (hl:l.length<=1048576):ToOk 123 [roT (l.map Sl.t)] ⟨.one,[.ow (0,0) 2 (l.map Sl.t)]⟩:=by
 have ih:=fun (e:Sl) (_:e∈l)=>c_toSlot e;obtain ⟨els,he⟩:=qX (l.map Sl.t);simp only[roT,<-he];have hk:KOf els 2:=by rw[he];exact kOf_map Sl.t_len l
 have hcs:=Sl.cs;have hz0:Zs [T.lit (.bool false),T.lit (.int .i64 0)]:=⟨trivial⟩;refine qF tyK Tryz.func123 23 [.tmp 2] ?_;unhygienic intros;exact qToS
theorem eqSlots (l:List Sl) (hl:l.length<=1048576):EqOk 144 (roT (l.map Sl.t)):=by
 have ih:=fun (e:Sl) (_:e∈l)=>c_eqSlot e;obtain ⟨els,he⟩:=qX (l.map Sl.t);simp only[roT,<-he];have hk:KOf els 2:=by rw[he];exact kOf_map Sl.t_len l
 have hcs:=Sl.cs;refine qF tyK Tryz.func144 27 [.tmp 4] ?_;unhygienic intros;exact qEqS
theorem c_toLabel (x:La):ToOk 167 [agT x.t] ⟨.agg,x.ow⟩:=by
 obtain ⟨xLoop,xPc,xHeight,xIters,xRes⟩:=x;simp only[ToOk,EqOk,roT,agT,La.t,La.ow,List.map,List.cons_append,List.nil_append,List.append_nil,tA] at *;refine qF tyK Tryz.func167 20 [.cell 2 272] ?_;unhygienic intros;exact qTo
theorem c_eqLabel (x:La):EqOk 185 (agT x.t):=by
 obtain ⟨xLoop,xPc,xHeight,xIters,xRes⟩:=x;simp only[ToOk,EqOk,roT,agT,La.t,La.ow,List.map,List.cons_append,List.nil_append,List.append_nil,tA] at *;refine qF tyK Tryz.func185 30 [.tmp 4] ?_;unhygienic intros;exact qTo
theorem szLabels (l:List La) (hl:l.length<=maxLen):SzOk 106 (fun left=>[roT (l.map La.t),litI left]) l.length:=fun left hleft=>c_szLabelS l _ rfl hl left hleft
theorem toLabels (l:List La) (hl:l.length<=1048576):ToOk 124 [roT (l.map La.t)] ⟨.one,[.ow (0,0) 5 (l.map La.t)]⟩:=by
 have ih:=fun (e:La) (_:e∈l)=>c_toLabel e;obtain ⟨els,he⟩:=qX (l.map La.t);simp only[roT,<-he];have hk:KOf els 5:=by rw[he];exact kOf_map La.t_len l
 have hcs:=La.cs;have hz0:Zs [T.lit (.bool false),T.lit (.int .i64 0),T.lit (.int .i64 0),T.lit (.int .i64 0),T.lit (.int .i64 0)]:=⟨trivial⟩;refine qF tyK Tryz.func124 23 [.tmp 2] ?_;unhygienic intros;exact qToS
theorem eqLabels (l:List La) (hl:l.length<=1048576):EqOk 145 (roT (l.map La.t)):=by
 have ih:=fun (e:La) (_:e∈l)=>c_eqLabel e;obtain ⟨els,he⟩:=qX (l.map La.t);simp only[roT,<-he];have hk:KOf els 5:=by rw[he];exact kOf_map La.t_len l
 have hcs:=La.cs;refine qF tyK Tryz.func145 27 [.tmp 4] ?_;unhygienic intros;exact qEqS
theorem c_szIter (x:It) (hw:x.Wf):SzOk 152 (fun left=>[agT x.t,litI left]) x.sz:=by
 intro left hleft;have i1:=szInts x.keys hw.keys;clear hw;obtain ⟨S,hS⟩:=qX x.sz;rw[<-hS];simp only[It.sz] at hS;obtain ⟨xKeys,xAt⟩:=x;simp only[SzOk,roT,agT,It.t,It.ow,List.map,List.cons_append,List.nil_append,List.append_nil,tA] at *;generalize xKeys.map intT=tKeys at *;refine qF tyK Tryz.func152 12 [.tmp 4] ?_;unhygienic intros;exact qSz
theorem c_toIter (x:It) (hz:x.sz<=1048576):ToOk 168 [agT x.t] ⟨.agg,x.ow⟩:=by
 simp only[It.sz] at hz;have i1:=toInts x.keys (by omega)
 clear hz;obtain ⟨xKeys,xAt⟩:=x;simp only[ToOk,EqOk,roT,agT,It.t,It.ow,List.map,List.cons_append,List.nil_append,List.append_nil,tA] at *;generalize xKeys.map intT=tKeys at *;refine qF tyK Tryz.func168 12 [.cell 2 275] ?_;unhygienic intros;exact qTo
theorem c_eqIter (x:It) (hz:x.sz<=1048576):EqOk 186 (agT x.t):=by
 simp only[It.sz] at hz;have i1:=eqInts x.keys (by omega)
 clear hz;obtain ⟨xKeys,xAt⟩:=x;simp only[ToOk,EqOk,roT,agT,It.t,It.ow,List.map,List.cons_append,List.nil_append,List.append_nil,tA] at *;generalize xKeys.map intT=tKeys at *;refine qF tyK Tryz.func186 16 [.tmp 4] ?_;unhygienic intros;exact qTo
theorem szIters (l:List It) (hl:l.length<=maxLen) (h:∀e∈l,It.Wf e):SzOk 107 (fun left=>[roT (l.map It.t),litI left]) (l.length+It.szs l):=by
 intro left hleft;have ih:=fun e he=>c_szIter e (h e he);clear h;obtain ⟨els,he⟩:=qX (l.map It.t);simp only[roT,<-he];have hk:KOf els 2:=by rw[he];exact kOf_map It.t_len l
 have hcs:=It.cs;have hsf:=It.szF;generalize It.szs=S at *;refine qF tyK Tryz.func107 27 [.tmp 4] ?_;unhygienic intros;exact qSzS
theorem toIters (l:List It) (hz:l.length+It.szs l<=1048576):ToOk 125 [roT (l.map It.t)] ⟨.one,[.ow (0,0) 2 (l.map It.t)]⟩:=by
 have hl:l.length<=1048576:=by omega
 have ih:=fun e (he:e∈l)=>c_toIter e (by have:=sum_mem (f:=It.sz) he;unfold It.szs at hz;omega)
 clear hz;obtain ⟨els,he⟩:=qX (l.map It.t);simp only[roT,<-he];have hk:KOf els 2:=by rw[he];exact kOf_map It.t_len l
 have hcs:=It.cs;have hz0:Zs [T.sl [],T.lit (.int .i64 0)]:=⟨trivial⟩;refine qF tyK Tryz.func125 23 [.tmp 2] ?_;unhygienic intros;exact qToS
theorem eqIters (l:List It) (hz:l.length+It.szs l<=1048576):EqOk 146 (roT (l.map It.t)):=by
 have hl:l.length<=1048576:=by omega
 have ih:=fun e (he:e∈l)=>c_eqIter e (by have:=sum_mem (f:=It.sz) he;unfold It.szs at hz;omega)
 clear hz;obtain ⟨els,he⟩:=qX (l.map It.t);simp only[roT,<-he];have hk:KOf els 2:=by rw[he];exact kOf_map It.t_len l
 have hcs:=It.cs;refine qF tyK Tryz.func146 27 [.tmp 4] ?_;unhygienic intros;exact qEqS
theorem Fr.cs (x:Fr):∃xFn xPc xLocals xStack xLabels xIters,x.t=[T.lit (.int .i64 xFn),T.lit (.int .i64 xPc),T.sl xLocals,T.sl xStack,T.sl xLabels,T.sl xIters]/\x.ow=[A.lit (.int .i64 xFn),A.lit (.int .i64 xPc),A.ow (0,0) 1 xLocals,A.ow (0,0) 2 xStack,A.ow (0,0) 5 xLabels,A.ow (0,0) 2 xIters]:=by
 obtain ⟨xFn,xPc,xLocals,xStack,xLabels,xIters⟩:=x;exact ⟨xFn,xPc,xLocals.map intT,xStack.map Sl.t,xLabels.map La.t,xIters.map It.t,by simp only[Fr.t,Fr.ow,List.map,List.cons_append,List.nil_append,List.append_nil,tA],by simp only[Fr.t,Fr.ow,List.map,List.cons_append,List.nil_append,List.append_nil,tA]⟩
theorem Fr.szF:SzF Fr.szs Fr.sz:=szF_of rfl Fr.szs_app Fr.szs_one
theorem Nm.cs (x:Nm):∃xName xVK xVN xVS,x.t=[T.lit (.string xName),T.lit (.int .i64 xVK),T.lit (.int .i64 xVN),T.lit (.string xVS)]/\x.ow=[A.lit (.string xName),A.lit (.int .i64 xVK),A.lit (.int .i64 xVN),A.lit (.string xVS)]:=by
 obtain ⟨xName,⟨xVK,xVN,xVS⟩⟩:=x;exact ⟨xName,xVK,xVN,xVS,by simp only[Nm.t,Nm.ow,Vl.t,Vl.ow,List.map,List.cons_append,List.nil_append,List.append_nil,tA],by simp only[Nm.t,Nm.ow,Vl.t,Vl.ow,List.map,List.cons_append,List.nil_append,List.append_nil,tA]⟩
theorem Nm.szF:SzF Nm.szs Nm.sz:=szF_of rfl Nm.szs_app Nm.szs_one
theorem En.cs (x:En):∃xKey xVK xVN xVS,x.t=[T.lit (.string xKey),T.lit (.int .i64 xVK),T.lit (.int .i64 xVN),T.lit (.string xVS)]/\x.ow=[A.lit (.string xKey),A.lit (.int .i64 xVK),A.lit (.int .i64 xVN),A.lit (.string xVS)]:=by
 obtain ⟨xKey,⟨xVK,xVN,xVS⟩⟩:=x;exact ⟨xKey,xVK,xVN,xVS,by simp only[En.t,En.ow,Vl.t,Vl.ow,List.map,List.cons_append,List.nil_append,List.append_nil,tA],by simp only[En.t,En.ow,Vl.t,Vl.ow,List.map,List.cons_append,List.nil_append,List.append_nil,tA]⟩
theorem En.szF:SzF En.szs En.sz:=szF_of rfl En.szs_app En.szs_one
theorem Tb.cs (x:Tb):∃xName xL,x.t=[T.lit (.string xName),T.sl xL]/\x.ow=[A.lit (.string xName),A.ow (0,0) 4 xL]:=by
 obtain ⟨xName,xL⟩:=x;exact ⟨xName,xL.map En.t,by simp only[Tb.t,Tb.ow,List.map,List.cons_append,List.nil_append,List.append_nil,tA],by simp only[Tb.t,Tb.ow,List.map,List.cons_append,List.nil_append,List.append_nil,tA]⟩
theorem Tb.szF:SzF Tb.szs Tb.sz:=szF_of rfl Tb.szs_app Tb.szs_one
theorem c_szFrame (x:Fr) (hw:x.Wf):SzOk 58 (fun left=>[agT x.t,litI left]) x.sz:=by
 intro left hleft;have i1:=szInts x.locals hw.locals;have i2:=szSlots x.stack hw.stack;have i3:=szLabels x.labels hw.labels;have i4:=szIters x.iters hw.iters hw.iters';clear hw;obtain ⟨S,hS⟩:=qX x.sz;rw[<-hS];simp only[Fr.sz] at hS;obtain ⟨xFn,xPc,xLocals,xStack,xLabels,xIters⟩:=x;simp only[SzOk,roT,agT,Fr.t,Fr.ow,List.map,List.cons_append,List.nil_append,List.append_nil,tA] at *;generalize xLocals.map intT=tLocals at *
 generalize xStack.map Sl.t=tStack at *;generalize xLabels.map La.t=tLabels at *;generalize xIters.map It.t=tIters at *;refine qF tyK Tryz.func58 30 [.tmp 4] ?_;unhygienic intros;exact qSz
theorem c_toFrame (x:Fr) (hz:x.sz<=1048576):ToOk 73 [agT x.t] ⟨.agg,x.ow⟩:=by
 simp only[Fr.sz] at hz;have i1:=toInts x.locals (by omega)
 have i2:=toSlots x.stack (by omega)
 have i3:=toLabels x.labels (by omega)
 have i4:=toIters x.iters (by omega)
 clear hz;obtain ⟨xFn,xPc,xLocals,xStack,xLabels,xIters⟩:=x;simp only[ToOk,EqOk,roT,agT,Fr.t,Fr.ow,List.map,List.cons_append,List.nil_append,List.append_nil,tA] at *;generalize xLocals.map intT=tLocals at *;generalize xStack.map Sl.t=tStack at *;generalize xLabels.map La.t=tLabels at *;generalize xIters.map It.t=tIters at *;refine qF tyK Tryz.func73 27 [.cell 2 168] ?_;unhygienic intros;exact qTo
theorem c_eqFrame (x:Fr) (hz:x.sz<=1048576):EqOk 98 (agT x.t):=by
 simp only[Fr.sz] at hz;have i1:=eqInts x.locals (by omega)
 have i2:=eqSlots x.stack (by omega)
 have i3:=eqLabels x.labels (by omega)
 have i4:=eqIters x.iters (by omega)
 clear hz;obtain ⟨xFn,xPc,xLocals,xStack,xLabels,xIters⟩:=x;simp only[ToOk,EqOk,roT,agT,Fr.t,Fr.ow,List.map,List.cons_append,List.nil_append,List.append_nil,tA] at *;generalize xLocals.map intT=tLocals at *;generalize xStack.map Sl.t=tStack at *;generalize xLabels.map La.t=tLabels at *;generalize xIters.map It.t=tIters at *;refine qF tyK Tryz.func98 39 [.tmp 4] ?_;unhygienic intros;exact qTo
theorem szFrames (l:List Fr) (hl:l.length<=maxLen) (h:∀e∈l,Fr.Wf e):SzOk 23 (fun left=>[roT (l.map Fr.t),litI left]) (l.length+Fr.szs l):=by
 intro left hleft;have ih:=fun e he=>c_szFrame e (h e he);clear h;obtain ⟨els,he⟩:=qX (l.map Fr.t);simp only[roT,<-he];have hk:KOf els 6:=by rw[he];exact kOf_map Fr.t_len l
 have hcs:=Fr.cs;have hsf:=Fr.szF;generalize Fr.szs=S at *;refine qF tyK Tryz.func23 27 [.tmp 4] ?_;unhygienic intros;exact qSzS
theorem toFrames (l:List Fr) (hz:l.length+Fr.szs l<=1048576):ToOk 35 [roT (l.map Fr.t)] ⟨.one,[.ow (0,0) 6 (l.map Fr.t)]⟩:=by
 have hl:l.length<=1048576:=by omega
 have ih:=fun e (he:e∈l)=>c_toFrame e (by have:=sum_mem (f:=Fr.sz) he;unfold Fr.szs at hz;omega)
 clear hz;obtain ⟨els,he⟩:=qX (l.map Fr.t);simp only[roT,<-he];have hk:KOf els 6:=by rw[he];exact kOf_map Fr.t_len l
 have hcs:=Fr.cs;have hz0:Zs [T.lit (.int .i64 0),T.lit (.int .i64 0),T.sl [],T.sl [],T.sl [],T.sl []]:=⟨trivial⟩;refine qF tyK Tryz.func35 23 [.tmp 2] ?_;unhygienic intros;exact qToS
theorem eqFrames (l:List Fr) (hz:l.length+Fr.szs l<=1048576):EqOk 50 (roT (l.map Fr.t)):=by
 have hl:l.length<=1048576:=by omega
 have ih:=fun e (he:e∈l)=>c_eqFrame e (by have:=sum_mem (f:=Fr.sz) he;unfold Fr.szs at hz;omega)
 clear hz;obtain ⟨els,he⟩:=qX (l.map Fr.t);simp only[roT,<-he];have hk:KOf els 6:=by rw[he];exact kOf_map Fr.t_len l
 have hcs:=Fr.cs;refine qF tyK Tryz.func50 27 [.tmp 4] ?_;unhygienic intros;exact qEqS
theorem c_szMach (x:Mc) (hw:x.Wf):SzOk 6 (fun left=>[agT x.t,litI left]) x.sz:=by
 intro left hleft;have i1:=c_szHeap x.h hw.h;have i2:=szInts x.vars hw.vars;have i3:=szMTables x.tables hw.tables hw.tables';have i4:=szFrames x.frames hw.frames hw.frames';have i5:=c_szRec x.r hw.r;have i6:=szBytes x.out hw.out;clear hw;obtain ⟨S,hS⟩:=qX x.sz;rw[<-hS];simp only[Mc.sz] at hS;obtain ⟨⟨xHCells⟩,xVars,xTables,xFrames,⟨xRLine,xRFields⟩,xNr,xOut,xFuel,xStop,xFault,xExit,xTrap⟩:=x;simp only[SzOk,roT,agT,Mc.t,Mc.ow,He.t,He.ow,Rc.t,Rc.ow,List.map,List.cons_append,List.nil_append,List.append_nil,tA] at *
 generalize xHCells.map Ce.t=tHCells at *;generalize xVars.map intT=tVars at *;generalize xTables.map Mt.t=tTables at *;generalize xFrames.map Fr.t=tFrames at *;generalize xRFields.map strT=tRFields at *;generalize xOut.map byteT=tOut at *;refine qF tyK Tryz.func6 42 [.tmp 4] ?_;unhygienic intros;exact qSz
theorem c_toMach (x:Mc) (hz:x.sz<=1048576):ToOk 10 [agT x.t] ⟨.agg,x.ow⟩:=by
 simp only[Mc.sz] at hz;have i1:=c_toHeap x.h (by omega)
 have i2:=toInts x.vars (by omega)
 have i3:=toMTables x.tables (by omega)
 have i4:=toFrames x.frames (by omega)
 have i5:=c_toRec x.r (by omega)
 have i6:=toBytes x.out (by omega)
 clear hz;obtain ⟨⟨xHCells⟩,xVars,xTables,xFrames,⟨xRLine,xRFields⟩,xNr,xOut,xFuel,xStop,xFault,xExit,xTrap⟩:=x;simp only[ToOk,EqOk,roT,agT,Mc.t,Mc.ow,He.t,He.ow,Rc.t,Rc.ow,List.map,List.cons_append,List.nil_append,List.append_nil,tA] at *;generalize xHCells.map Ce.t=tHCells at *;generalize xVars.map intT=tVars at *;generalize xTables.map Mt.t=tTables at *;generalize xFrames.map Fr.t=tFrames at *;generalize xRFields.map strT=tRFields at *
 generalize xOut.map byteT=tOut at *;refine qF tyK Tryz.func10 47 [.cell 2 67] ?_;unhygienic intros;exact qTo
theorem c_eqMach (x:Mc) (hz:x.sz<=1048576):EqOk 14 (agT x.t):=by
 simp only[Mc.sz] at hz;have i1:=c_eqHeap x.h (by omega)
 have i2:=eqInts x.vars (by omega)
 have i3:=eqMTables x.tables (by omega)
 have i4:=eqFrames x.frames (by omega)
 have i5:=c_eqRec x.r (by omega)
 have i6:=eqBytes x.out (by omega)
 clear hz;obtain ⟨⟨xHCells⟩,xVars,xTables,xFrames,⟨xRLine,xRFields⟩,xNr,xOut,xFuel,xStop,xFault,xExit,xTrap⟩:=x;simp only[ToOk,EqOk,roT,agT,Mc.t,Mc.ow,He.t,He.ow,Rc.t,Rc.ow,List.map,List.cons_append,List.nil_append,List.append_nil,tA] at *;generalize xHCells.map Ce.t=tHCells at *;generalize xVars.map intT=tVars at *;generalize xTables.map Mt.t=tTables at *;generalize xFrames.map Fr.t=tFrames at *;generalize xRFields.map strT=tRFields at *
 generalize xOut.map byteT=tOut at *;refine qF tyK Tryz.func14 71 [.tmp 4] ?_;unhygienic intros;exact qTo
theorem c_szNamed (x:Nm) (hw:x.Wf):SzOk 101 (fun left=>[agT x.t,litI left]) x.sz:=by
 intro left hleft;have i1:=c_szVal x.v hw.v;have g1:=hw.name;clear hw;obtain ⟨S,hS⟩:=qX x.sz;rw[<-hS];simp only[Nm.sz] at hS;obtain ⟨xName,⟨xVK,xVN,xVS⟩⟩:=x;simp only[SzOk,roT,agT,Nm.t,Nm.ow,Vl.t,Vl.ow,List.map,List.cons_append,List.nil_append,List.append_nil,tA] at *;refine qF tyK Tryz.func101 19 [.tmp 4] ?_;unhygienic intros;have j1:=szStr hO g1;exact qSz
theorem c_toNamed (x:Nm) (hz:x.sz<=1048576):ToOk 119 [agT x.t] ⟨.agg,x.ow⟩:=by
 simp only[Nm.sz] at hz;have i1:=c_toVal x.v (by omega)
 clear hz;obtain ⟨xName,⟨xVK,xVN,xVS⟩⟩:=x;simp only[ToOk,EqOk,roT,agT,Nm.t,Nm.ow,Vl.t,Vl.ow,List.map,List.cons_append,List.nil_append,List.append_nil,tA] at *;refine qF tyK Tryz.func119 12 [.cell 2 99] ?_;unhygienic intros;exact qTo
theorem c_eqNamed (x:Nm) (hz:x.sz<=1048576):EqOk 140 (agT x.t):=by
 simp only[Nm.sz] at hz;have i1:=c_eqVal x.v (by omega)
 clear hz;obtain ⟨xName,⟨xVK,xVN,xVS⟩⟩:=x;simp only[ToOk,EqOk,roT,agT,Nm.t,Nm.ow,Vl.t,Vl.ow,List.map,List.cons_append,List.nil_append,List.append_nil,tA] at *;refine qF tyK Tryz.func140 16 [.tmp 4] ?_;unhygienic intros;exact qTo
theorem szNameds (l:List Nm) (hl:l.length<=maxLen) (h:∀e∈l,Nm.Wf e):SzOk 53 (fun left=>[roT (l.map Nm.t),litI left]) (l.length+Nm.szs l):=by
 intro left hleft;have ih:=fun e he=>c_szNamed e (h e he);clear h;obtain ⟨els,he⟩:=qX (l.map Nm.t);simp only[roT,<-he];have hk:KOf els 4:=by rw[he];exact kOf_map Nm.t_len l
 have hcs:=Nm.cs;have hsf:=Nm.szF;generalize Nm.szs=S at *;refine qF tyK Tryz.func53 27 [.tmp 4] ?_;unhygienic intros;exact qSzS
theorem toNameds (l:List Nm) (hz:l.length+Nm.szs l<=1048576):ToOk 68 [roT (l.map Nm.t)] ⟨.one,[.ow (0,0) 4 (l.map Nm.t)]⟩:=by
 have hl:l.length<=1048576:=by omega
 have ih:=fun e (he:e∈l)=>c_toNamed e (by have:=sum_mem (f:=Nm.sz) he;unfold Nm.szs at hz;omega)
 clear hz;obtain ⟨els,he⟩:=qX (l.map Nm.t);simp only[roT,<-he];have hk:KOf els 4:=by rw[he];exact kOf_map Nm.t_len l
 have hcs:=Nm.cs;have hz0:Zs [T.lit (.string ⟨#[]⟩),T.lit (.int .i64 0),T.lit (.int .i64 0),T.lit (.string ⟨#[]⟩)]:=⟨trivial⟩;refine qF tyK Tryz.func68 23 [.tmp 2] ?_;unhygienic intros;exact qToS
theorem eqNameds (l:List Nm) (hz:l.length+Nm.szs l<=1048576):EqOk 93 (roT (l.map Nm.t)):=by
 have hl:l.length<=1048576:=by omega
 have ih:=fun e (he:e∈l)=>c_eqNamed e (by have:=sum_mem (f:=Nm.sz) he;unfold Nm.szs at hz;omega)
 clear hz;obtain ⟨els,he⟩:=qX (l.map Nm.t);simp only[roT,<-he];have hk:KOf els 4:=by rw[he];exact kOf_map Nm.t_len l
 have hcs:=Nm.cs;refine qF tyK Tryz.func93 27 [.tmp 4] ?_;unhygienic intros;exact qEqS
theorem c_szEntry (x:En) (hw:x.Wf):SzOk 187 (fun left=>[agT x.t,litI left]) x.sz:=by
 intro left hleft;have i1:=c_szVal x.v hw.v;have g1:=hw.key;clear hw;obtain ⟨S,hS⟩:=qX x.sz;rw[<-hS];simp only[En.sz] at hS;obtain ⟨xKey,⟨xVK,xVN,xVS⟩⟩:=x;simp only[SzOk,roT,agT,En.t,En.ow,Vl.t,Vl.ow,List.map,List.cons_append,List.nil_append,List.append_nil,tA] at *;refine qF tyK Tryz.func187 19 [.tmp 4] ?_;unhygienic intros;have j1:=szStr hO g1;exact qSz
theorem c_toEntry (x:En) (hz:x.sz<=1048576):ToOk 195 [agT x.t] ⟨.agg,x.ow⟩:=by
 simp only[En.sz] at hz;have i1:=c_toVal x.v (by omega)
 clear hz;obtain ⟨xKey,⟨xVK,xVN,xVS⟩⟩:=x;simp only[ToOk,EqOk,roT,agT,En.t,En.ow,Vl.t,Vl.ow,List.map,List.cons_append,List.nil_append,List.append_nil,tA] at *;refine qF tyK Tryz.func195 12 [.cell 2 188] ?_;unhygienic intros;exact qTo
theorem c_eqEntry (x:En) (hz:x.sz<=1048576):EqOk 213 (agT x.t):=by
 simp only[En.sz] at hz;have i1:=c_eqVal x.v (by omega)
 clear hz;obtain ⟨xKey,⟨xVK,xVN,xVS⟩⟩:=x;simp only[ToOk,EqOk,roT,agT,En.t,En.ow,Vl.t,Vl.ow,List.map,List.cons_append,List.nil_append,List.append_nil,tA] at *;refine qF tyK Tryz.func213 16 [.tmp 4] ?_;unhygienic intros;exact qTo
theorem szEntrys (l:List En) (hl:l.length<=maxLen) (h:∀e∈l,En.Wf e):SzOk 150 (fun left=>[roT (l.map En.t),litI left]) (l.length+En.szs l):=by
 intro left hleft;have ih:=fun e he=>c_szEntry e (h e he);clear h;obtain ⟨els,he⟩:=qX (l.map En.t);simp only[roT,<-he];have hk:KOf els 4:=by rw[he];exact kOf_map En.t_len l
 have hcs:=En.cs;have hsf:=En.szF;generalize En.szs=S at *;refine qF tyK Tryz.func150 27 [.tmp 4] ?_;unhygienic intros;exact qSzS
theorem toEntrys (l:List En) (hz:l.length+En.szs l<=1048576):ToOk 164 [roT (l.map En.t)] ⟨.one,[.ow (0,0) 4 (l.map En.t)]⟩:=by
 have hl:l.length<=1048576:=by omega
 have ih:=fun e (he:e∈l)=>c_toEntry e (by have:=sum_mem (f:=En.sz) he;unfold En.szs at hz;omega)
 clear hz;obtain ⟨els,he⟩:=qX (l.map En.t);simp only[roT,<-he];have hk:KOf els 4:=by rw[he];exact kOf_map En.t_len l
 have hcs:=En.cs;have hz0:Zs [T.lit (.string ⟨#[]⟩),T.lit (.int .i64 0),T.lit (.int .i64 0),T.lit (.string ⟨#[]⟩)]:=⟨trivial⟩;refine qF tyK Tryz.func164 23 [.tmp 2] ?_;unhygienic intros;exact qToS
theorem eqEntrys (l:List En) (hz:l.length+En.szs l<=1048576):EqOk 182 (roT (l.map En.t)):=by
 have hl:l.length<=1048576:=by omega
 have ih:=fun e (he:e∈l)=>c_eqEntry e (by have:=sum_mem (f:=En.sz) he;unfold En.szs at hz;omega)
 clear hz;obtain ⟨els,he⟩:=qX (l.map En.t);simp only[roT,<-he];have hk:KOf els 4:=by rw[he];exact kOf_map En.t_len l
 have hcs:=En.cs;refine qF tyK Tryz.func182 27 [.tmp 4] ?_;unhygienic intros;exact qEqS
theorem c_szTable (x:Tb) (hw:x.Wf):SzOk 102 (fun left=>[agT x.t,litI left]) x.sz:=by
 intro left hleft;have i1:=szEntrys x.l hw.l hw.l';have g1:=hw.name;clear hw;obtain ⟨S,hS⟩:=qX x.sz;rw[<-hS];simp only[Tb.sz] at hS;obtain ⟨xName,xL⟩:=x;simp only[SzOk,roT,agT,Tb.t,Tb.ow,List.map,List.cons_append,List.nil_append,List.append_nil,tA] at *;generalize xL.map En.t=tL at *;refine qF tyK Tryz.func102 19 [.tmp 4] ?_;unhygienic intros;have j1:=szStr hO g1;exact qSz
theorem c_toTable (x:Tb) (hz:x.sz<=1048576):ToOk 120 [agT x.t] ⟨.agg,x.ow⟩:=by
 simp only[Tb.sz] at hz;have i1:=toEntrys x.l (by omega)
 clear hz;obtain ⟨xName,xL⟩:=x;simp only[ToOk,EqOk,roT,agT,Tb.t,Tb.ow,List.map,List.cons_append,List.nil_append,List.append_nil,tA] at *;generalize xL.map En.t=tL at *;refine qF tyK Tryz.func120 12 [.cell 2 103] ?_;unhygienic intros;exact qTo
theorem c_eqTable (x:Tb) (hz:x.sz<=1048576):EqOk 141 (agT x.t):=by
 simp only[Tb.sz] at hz;have i1:=eqEntrys x.l (by omega)
 clear hz;obtain ⟨xName,xL⟩:=x;simp only[ToOk,EqOk,roT,agT,Tb.t,Tb.ow,List.map,List.cons_append,List.nil_append,List.append_nil,tA] at *;generalize xL.map En.t=tL at *;refine qF tyK Tryz.func141 16 [.tmp 4] ?_;unhygienic intros;exact qTo
theorem szTables (l:List Tb) (hl:l.length<=maxLen) (h:∀e∈l,Tb.Wf e):SzOk 54 (fun left=>[roT (l.map Tb.t),litI left]) (l.length+Tb.szs l):=by
 intro left hleft;have ih:=fun e he=>c_szTable e (h e he);clear h;obtain ⟨els,he⟩:=qX (l.map Tb.t);simp only[roT,<-he];have hk:KOf els 2:=by rw[he];exact kOf_map Tb.t_len l
 have hcs:=Tb.cs;have hsf:=Tb.szF;generalize Tb.szs=S at *;refine qF tyK Tryz.func54 27 [.tmp 4] ?_;unhygienic intros;exact qSzS
theorem toTables (l:List Tb) (hz:l.length+Tb.szs l<=1048576):ToOk 69 [roT (l.map Tb.t)] ⟨.one,[.ow (0,0) 2 (l.map Tb.t)]⟩:=by
 have hl:l.length<=1048576:=by omega
 have ih:=fun e (he:e∈l)=>c_toTable e (by have:=sum_mem (f:=Tb.sz) he;unfold Tb.szs at hz;omega)
 clear hz;obtain ⟨els,he⟩:=qX (l.map Tb.t);simp only[roT,<-he];have hk:KOf els 2:=by rw[he];exact kOf_map Tb.t_len l
 have hcs:=Tb.cs;have hz0:Zs [T.lit (.string ⟨#[]⟩),T.sl []]:=⟨trivial⟩;refine qF tyK Tryz.func69 23 [.tmp 2] ?_;unhygienic intros;exact qToS
theorem eqTables (l:List Tb) (hz:l.length+Tb.szs l<=1048576):EqOk 94 (roT (l.map Tb.t)):=by
 have hl:l.length<=1048576:=by omega
 have ih:=fun e (he:e∈l)=>c_eqTable e (by have:=sum_mem (f:=Tb.sz) he;unfold Tb.szs at hz;omega)
 clear hz;obtain ⟨els,he⟩:=qX (l.map Tb.t);simp only[roT,<-he];have hk:KOf els 2:=by rw[he];exact kOf_map Tb.t_len l
 have hcs:=Tb.cs;refine qF tyK Tryz.func94 27 [.tmp 4] ?_;unhygienic intros;exact qEqS
theorem c_szEnv (x:Ev) (hw:x.Wf):SzOk 17 (fun left=>[agT x.t,litI left]) x.sz:=by
 intro left hleft;have i1:=szNameds x.vars hw.vars hw.vars';have i2:=szTables x.tables hw.tables hw.tables';clear hw;obtain ⟨S,hS⟩:=qX x.sz;rw[<-hS];simp only[Ev.sz] at hS;obtain ⟨xVars,xTables⟩:=x;simp only[SzOk,roT,agT,Ev.t,Ev.ow,List.map,List.cons_append,List.nil_append,List.append_nil,tA] at *;generalize xVars.map Nm.t=tVars at *;generalize xTables.map Tb.t=tTables at *;refine qF tyK Tryz.func17 18 [.tmp 4] ?_;unhygienic intros
 exact qSz
theorem c_toEnv (x:Ev) (hz:x.sz<=1048576):ToOk 29 [agT x.t] ⟨.agg,x.ow⟩:=by
 simp only[Ev.sz] at hz;have i1:=toNameds x.vars (by omega)
 have i2:=toTables x.tables (by omega)
 clear hz;obtain ⟨xVars,xTables⟩:=x;simp only[ToOk,EqOk,roT,agT,Ev.t,Ev.ow,List.map,List.cons_append,List.nil_append,List.append_nil,tA] at *;generalize xVars.map Nm.t=tVars at *;generalize xTables.map Tb.t=tTables at *;refine qF tyK Tryz.func29 13 [.cell 2 56] ?_;unhygienic intros;exact qTo
theorem c_eqEnv (x:Ev) (hz:x.sz<=1048576):EqOk 44 (agT x.t):=by
 simp only[Ev.sz] at hz;have i1:=eqNameds x.vars (by omega)
 have i2:=eqTables x.tables (by omega)
 clear hz;obtain ⟨xVars,xTables⟩:=x;simp only[ToOk,EqOk,roT,agT,Ev.t,Ev.ow,List.map,List.cons_append,List.nil_append,List.append_nil,tA] at *;generalize xVars.map Nm.t=tVars at *;generalize xTables.map Tb.t=tTables at *;refine qF tyK Tryz.func44 17 [.tmp 4] ?_;unhygienic intros;exact qTo
theorem c_szSt (x:Sx) (hw:x.Wf):SzOk 5 (fun left=>[agT x.t,litI left]) x.sz:=by
 intro left hleft;have i1:=c_szEnv x.e hw.e;have i2:=c_szRec x.r hw.r;have i3:=szBytes x.out hw.out;clear hw;obtain ⟨S,hS⟩:=qX x.sz;rw[<-hS];simp only[Sx.sz] at hS;obtain ⟨⟨xEVars,xETables⟩,⟨xRLine,xRFields⟩,xNr,xOut,xFuel,xCalls,xStop,xFault,xExit⟩:=x;simp only[SzOk,roT,agT,Sx.t,Sx.ow,Ev.t,Ev.ow,Rc.t,Rc.ow,List.map,List.cons_append,List.nil_append,List.append_nil,tA] at *;generalize xEVars.map Nm.t=tEVars at *
 generalize xETables.map Tb.t=tETables at *;generalize xRFields.map strT=tRFields at *;generalize xOut.map byteT=tOut at *;refine qF tyK Tryz.func5 24 [.tmp 4] ?_;unhygienic intros;exact qSz
theorem c_toSt (x:Sx) (hz:x.sz<=1048576):ToOk 9 [agT x.t] ⟨.agg,x.ow⟩:=by
 simp only[Sx.sz] at hz;have i1:=c_toEnv x.e (by omega)
 have i2:=c_toRec x.r (by omega)
 have i3:=toBytes x.out (by omega)
 clear hz;obtain ⟨⟨xEVars,xETables⟩,⟨xRLine,xRFields⟩,xNr,xOut,xFuel,xCalls,xStop,xFault,xExit⟩:=x;simp only[ToOk,EqOk,roT,agT,Sx.t,Sx.ow,Ev.t,Ev.ow,Rc.t,Rc.ow,List.map,List.cons_append,List.nil_append,List.append_nil,tA] at *;generalize xEVars.map Nm.t=tEVars at *;generalize xETables.map Tb.t=tETables at *;generalize xRFields.map strT=tRFields at *;generalize xOut.map byteT=tOut at *;refine qF tyK Tryz.func9 35 [.cell 2 59] ?_;unhygienic intros
 exact qTo
theorem c_eqSt (x:Sx) (hz:x.sz<=1048576):EqOk 13 (agT x.t):=by
 simp only[Sx.sz] at hz;have i1:=c_eqEnv x.e (by omega)
 have i2:=c_eqRec x.r (by omega)
 have i3:=eqBytes x.out (by omega)
 clear hz;obtain ⟨⟨xEVars,xETables⟩,⟨xRLine,xRFields⟩,xNr,xOut,xFuel,xCalls,xStop,xFault,xExit⟩:=x;simp only[ToOk,EqOk,roT,agT,Sx.t,Sx.ow,Ev.t,Ev.ow,Rc.t,Rc.ow,List.map,List.cons_append,List.nil_append,List.append_nil,tA] at *;generalize xEVars.map Nm.t=tEVars at *;generalize xETables.map Tb.t=tETables at *;generalize xRFields.map strT=tRFields at *;generalize xOut.map byteT=tOut at *;refine qF tyK Tryz.func13 53 [.tmp 4] ?_;unhygienic intros
 exact qTo
end Go.Gv
