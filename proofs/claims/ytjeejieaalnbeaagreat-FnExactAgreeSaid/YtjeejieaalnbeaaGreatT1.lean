/- Part T1 of the proof: contracts of functions of the program, each walked once. -/
import Derived.Test.YtjeejieaalnbeaaGreatR1
import Derived.Test.YtjeejieaalnbeaaGreatK1
import Derived.Test.YtjeejieaalnbeaaGreatK2
import Derived.Test.YtjeejieaalnbeaaGreatProg
import Derived.KernelRfl
import Derived.Test.YtjeejieaalnbeaaGreatG1
set_option linter.all false
namespace Go.Gv
open Go.Av Go.Proofs
def tys:Nat->Option TI:=look [(3,⟨.int .i64,1,8,[.int .i64 0],true⟩),
 (4,⟨.bool,1,1,[.bool false],true⟩),
 (5,⟨.int .u8,1,1,[.int .u8 0],true⟩),
 (9,⟨.str,1,16,[.string ⟨#[]⟩],true⟩),
 (21,⟨.int .i32,1,4,[.int .i32 0],true⟩),
 (22,⟨.slice 122,1,24,[.slice none 0 0],true⟩),
 (23,⟨.slice 125,1,24,[.slice none 0 0],true⟩),
 (24,⟨.struct [(0,22),(1,23)],2,48,[.slice none 0 0,.slice none 0 0],true⟩),
 (25,⟨.struct [(0,22),(1,23)],2,48,[.slice none 0 0,.slice none 0 0],true⟩),
 (26,⟨.slice 203,1,24,[.slice none 0 0],true⟩),
 (27,⟨.slice 207,1,24,[.slice none 0 0],true⟩),
 (28,⟨.struct [(0,26),(1,27)],2,48,[.slice none 0 0,.slice none 0 0],true⟩),
 (29,⟨.struct [(0,26),(1,27)],2,48,[.slice none 0 0,.slice none 0 0],true⟩),
 (30,⟨.slice 9,1,24,[.slice none 0 0],true⟩),
 (31,⟨.struct [(0,9),(1,30)],2,40,[.string ⟨#[]⟩,.slice none 0 0],true⟩),
 (32,⟨.struct [(0,9),(1,30)],2,40,[.string ⟨#[]⟩,.slice none 0 0],true⟩),
 (33,⟨.slice 5,1,24,[.slice none 0 0],true⟩),
 (34,⟨.struct [(0,29),(2,32),(4,3),(5,33),(6,3),(7,3),(8,3),(9,3),(10,3)],11,160,[.slice none 0 0,.slice none 0 0,.string ⟨#[]⟩,.slice none 0 0,.int .i64 0,.slice none 0 0,.int .i64 0,.int .i64 0,.int .i64 0,.int .i64 0,.int .i64 0],true⟩),
 (35,⟨.struct [(0,29),(2,32),(4,3),(5,33),(6,3),(7,3),(8,3),(9,3),(10,3)],11,160,[.slice none 0 0,.slice none 0 0,.string ⟨#[]⟩,.slice none 0 0,.int .i64 0,.slice none 0 0,.int .i64 0,.int .i64 0,.int .i64 0,.int .i64 0,.int .i64 0],true⟩),
 (36,⟨.slice 210,1,24,[.slice none 0 0],true⟩),
 (37,⟨.struct [(0,36)],1,24,[.slice none 0 0],true⟩),
 (38,⟨.struct [(0,36)],1,24,[.slice none 0 0],true⟩),
 (39,⟨.slice 3,1,24,[.slice none 0 0],true⟩),
 (40,⟨.slice 133,1,24,[.slice none 0 0],true⟩),
 (41,⟨.slice 139,1,24,[.slice none 0 0],true⟩),
 (42,⟨.struct [(0,38),(1,39),(2,40),(3,41),(4,32),(6,3),(7,33),(8,3),(9,3),(10,3),(11,3),(12,4)],13,208,[.slice none 0 0,.slice none 0 0,.slice none 0 0,.slice none 0 0,.string ⟨#[]⟩,.slice none 0 0,.int .i64 0,.slice none 0 0,.int .i64 0,.int .i64 0,.int .i64 0,.int .i64 0,.bool false],true⟩),
 (43,⟨.struct [(0,38),(1,39),(2,40),(3,41),(4,32),(6,3),(7,33),(8,3),(9,3),(10,3),(11,3),(12,4)],13,208,[.slice none 0 0,.slice none 0 0,.slice none 0 0,.slice none 0 0,.string ⟨#[]⟩,.slice none 0 0,.int .i64 0,.slice none 0 0,.int .i64 0,.int .i64 0,.int .i64 0,.int .i64 0,.bool false],true⟩),
 (48,⟨.slice 156,1,24,[.slice none 0 0],true⟩),
 (49,⟨.slice 152,1,24,[.slice none 0 0],true⟩),
 (50,⟨.struct [(0,48),(1,49)],2,48,[.slice none 0 0,.slice none 0 0],true⟩),
 (51,⟨.struct [(0,48),(1,49)],2,48,[.slice none 0 0,.slice none 0 0],true⟩),
 (53,⟨.slice 99,1,24,[.slice none 0 0],true⟩),
 (54,⟨.slice 103,1,24,[.slice none 0 0],true⟩),
 (55,⟨.struct [(0,53),(1,54)],2,48,[.slice none 0 0,.slice none 0 0],true⟩),
 (56,⟨.struct [(0,53),(1,54)],2,48,[.slice none 0 0,.slice none 0 0],true⟩),
 (57,⟨.struct [(0,9),(1,30)],2,40,[.string ⟨#[]⟩,.slice none 0 0],true⟩),
 (58,⟨.struct [(0,56),(2,57),(4,3),(5,33),(6,3),(7,3),(8,3),(9,3),(10,3)],11,160,[.slice none 0 0,.slice none 0 0,.string ⟨#[]⟩,.slice none 0 0,.int .i64 0,.slice none 0 0,.int .i64 0,.int .i64 0,.int .i64 0,.int .i64 0,.int .i64 0],true⟩),
 (59,⟨.struct [(0,56),(2,57),(4,3),(5,33),(6,3),(7,3),(8,3),(9,3),(10,3)],11,160,[.slice none 0 0,.slice none 0 0,.string ⟨#[]⟩,.slice none 0 0,.int .i64 0,.slice none 0 0,.int .i64 0,.int .i64 0,.int .i64 0,.int .i64 0,.int .i64 0],true⟩),
 (61,⟨.slice 186,1,24,[.slice none 0 0],true⟩),
 (62,⟨.struct [(0,61)],1,24,[.slice none 0 0],true⟩),
 (63,⟨.struct [(0,61)],1,24,[.slice none 0 0],true⟩),
 (64,⟨.slice 107,1,24,[.slice none 0 0],true⟩),
 (65,⟨.slice 168,1,24,[.slice none 0 0],true⟩),
 (66,⟨.struct [(0,63),(1,39),(2,64),(3,65),(4,57),(6,3),(7,33),(8,3),(9,3),(10,3),(11,3),(12,4)],13,208,[.slice none 0 0,.slice none 0 0,.slice none 0 0,.slice none 0 0,.string ⟨#[]⟩,.slice none 0 0,.int .i64 0,.slice none 0 0,.int .i64 0,.int .i64 0,.int .i64 0,.int .i64 0,.bool false],true⟩),
 (67,⟨.struct [(0,63),(1,39),(2,64),(3,65),(4,57),(6,3),(7,33),(8,3),(9,3),(10,3),(11,3),(12,4)],13,208,[.slice none 0 0,.slice none 0 0,.slice none 0 0,.slice none 0 0,.string ⟨#[]⟩,.slice none 0 0,.int .i64 0,.slice none 0 0,.int .i64 0,.int .i64 0,.int .i64 0,.int .i64 0,.bool false],true⟩),
 (96,⟨.struct [(0,3),(1,3),(2,9)],3,32,[.int .i64 0,.int .i64 0,.string ⟨#[]⟩],true⟩),
 (97,⟨.struct [(0,3),(1,3),(2,9)],3,32,[.int .i64 0,.int .i64 0,.string ⟨#[]⟩],true⟩),
 (98,⟨.struct [(0,9),(1,97)],4,48,[.string ⟨#[]⟩,.int .i64 0,.int .i64 0,.string ⟨#[]⟩],true⟩),
 (99,⟨.struct [(0,9),(1,97)],4,48,[.string ⟨#[]⟩,.int .i64 0,.int .i64 0,.string ⟨#[]⟩],true⟩),
 (101,⟨.slice 188,1,24,[.slice none 0 0],true⟩),
 (102,⟨.struct [(0,9),(1,101)],2,40,[.string ⟨#[]⟩,.slice none 0 0],true⟩),
 (103,⟨.struct [(0,9),(1,101)],2,40,[.string ⟨#[]⟩,.slice none 0 0],true⟩),
 (105,⟨.slice 190,1,24,[.slice none 0 0],true⟩),
 (106,⟨.struct [(0,105)],1,24,[.slice none 0 0],true⟩),
 (107,⟨.struct [(0,105)],1,24,[.slice none 0 0],true⟩),
 (117,⟨.slice 119,1,24,[.slice none 0 0],true⟩),
 (118,⟨.struct [(0,3),(1,3),(2,9),(3,117)],4,56,[.int .i64 0,.int .i64 0,.string ⟨#[]⟩,.slice none 0 0],true⟩),
 (119,⟨.struct [(0,3),(1,3),(2,9),(3,117)],4,56,[.int .i64 0,.int .i64 0,.string ⟨#[]⟩,.slice none 0 0],true⟩),
 (120,⟨.slice 248,1,24,[.slice none 0 0],true⟩),
 (121,⟨.struct [(0,3),(1,119),(5,120)],6,88,[.int .i64 0,.int .i64 0,.int .i64 0,.string ⟨#[]⟩,.slice none 0 0,.slice none 0 0],true⟩),
 (122,⟨.struct [(0,3),(1,119),(5,120)],6,88,[.int .i64 0,.int .i64 0,.int .i64 0,.string ⟨#[]⟩,.slice none 0 0,.slice none 0 0],true⟩),
 (124,⟨.struct [(0,9),(1,30),(2,120)],3,64,[.string ⟨#[]⟩,.slice none 0 0,.slice none 0 0],true⟩),
 (125,⟨.struct [(0,9),(1,30),(2,120)],3,64,[.string ⟨#[]⟩,.slice none 0 0,.slice none 0 0],true⟩),
 (131,⟨.slice 252,1,24,[.slice none 0 0],true⟩),
 (132,⟨.struct [(0,131)],1,24,[.slice none 0 0],true⟩),
 (133,⟨.struct [(0,131)],1,24,[.slice none 0 0],true⟩),
 (135,⟨.slice 270,1,24,[.slice none 0 0],true⟩),
 (136,⟨.slice 274,1,24,[.slice none 0 0],true⟩),
 (137,⟨.slice 255,1,24,[.slice none 0 0],true⟩),
 (138,⟨.struct [(0,3),(1,3),(2,39),(3,135),(4,136),(5,137)],6,112,[.int .i64 0,.int .i64 0,.slice none 0 0,.slice none 0 0,.slice none 0 0,.slice none 0 0],true⟩),
 (139,⟨.struct [(0,3),(1,3),(2,39),(3,135),(4,136),(5,137)],6,112,[.int .i64 0,.int .i64 0,.slice none 0 0,.slice none 0 0,.slice none 0 0,.slice none 0 0],true⟩),
 (141,⟨.ptr 146,1,8,[.pointer none],true⟩),
 (144,⟨.slice 149,1,24,[.slice none 0 0],true⟩),
 (145,⟨.struct [(0,30),(1,30),(2,144),(3,30),(4,4),(5,4),(6,4)],7,104,[.slice none 0 0,.slice none 0 0,.slice none 0 0,.slice none 0 0,.bool false,.bool false,.bool false],true⟩),
 (146,⟨.struct [(0,30),(1,30),(2,144),(3,30),(4,4),(5,4),(6,4)],7,104,[.slice none 0 0,.slice none 0 0,.slice none 0 0,.slice none 0 0,.bool false,.bool false,.bool false],true⟩),
 (148,⟨.struct [(0,3),(1,3),(2,9),(3,144)],4,56,[.int .i64 0,.int .i64 0,.string ⟨#[]⟩,.slice none 0 0],true⟩),
 (149,⟨.struct [(0,3),(1,3),(2,9),(3,144)],4,56,[.int .i64 0,.int .i64 0,.string ⟨#[]⟩,.slice none 0 0],true⟩),
 (150,⟨.slice 179,1,24,[.slice none 0 0],true⟩),
 (151,⟨.struct [(0,9),(1,30),(2,150)],3,64,[.string ⟨#[]⟩,.slice none 0 0,.slice none 0 0],true⟩),
 (152,⟨.struct [(0,9),(1,30),(2,150)],3,64,[.string ⟨#[]⟩,.slice none 0 0,.slice none 0 0],true⟩),
 (155,⟨.struct [(0,3),(1,149),(5,150)],6,88,[.int .i64 0,.int .i64 0,.int .i64 0,.string ⟨#[]⟩,.slice none 0 0,.slice none 0 0],true⟩),
 (156,⟨.struct [(0,3),(1,149),(5,150)],6,88,[.int .i64 0,.int .i64 0,.int .i64 0,.string ⟨#[]⟩,.slice none 0 0,.slice none 0 0],true⟩),
 (164,⟨.slice 268,1,24,[.slice none 0 0],true⟩),
 (165,⟨.slice 272,1,24,[.slice none 0 0],true⟩),
 (166,⟨.slice 275,1,24,[.slice none 0 0],true⟩),
 (167,⟨.struct [(0,3),(1,3),(2,39),(3,164),(4,165),(5,166)],6,112,[.int .i64 0,.int .i64 0,.slice none 0 0,.slice none 0 0,.slice none 0 0,.slice none 0 0],true⟩),
 (168,⟨.struct [(0,3),(1,3),(2,39),(3,164),(4,165),(5,166)],6,112,[.int .i64 0,.int .i64 0,.slice none 0 0,.slice none 0 0,.slice none 0 0,.slice none 0 0],true⟩),
 (170,⟨.slice 173,1,24,[.slice none 0 0],true⟩),
 (172,⟨.struct [(0,30),(1,144),(2,150),(3,3)],4,80,[.slice none 0 0,.slice none 0 0,.slice none 0 0,.int .i64 0],true⟩),
 (173,⟨.struct [(0,30),(1,144),(2,150),(3,3)],4,80,[.slice none 0 0,.slice none 0 0,.slice none 0 0,.int .i64 0],true⟩),
 (178,⟨.struct [(0,3),(1,9),(2,9),(3,144),(4,150),(5,150)],6,112,[.int .i64 0,.string ⟨#[]⟩,.string ⟨#[]⟩,.slice none 0 0,.slice none 0 0,.slice none 0 0],true⟩),
 (179,⟨.struct [(0,3),(1,9),(2,9),(3,144),(4,150),(5,150)],6,112,[.int .i64 0,.string ⟨#[]⟩,.string ⟨#[]⟩,.slice none 0 0,.slice none 0 0,.slice none 0 0],true⟩),
 (185,⟨.struct [(0,3),(1,97)],4,40,[.int .i64 0,.int .i64 0,.int .i64 0,.string ⟨#[]⟩],true⟩),
 (186,⟨.struct [(0,3),(1,97)],4,40,[.int .i64 0,.int .i64 0,.int .i64 0,.string ⟨#[]⟩],true⟩),
 (187,⟨.struct [(0,9),(1,97)],4,48,[.string ⟨#[]⟩,.int .i64 0,.int .i64 0,.string ⟨#[]⟩],true⟩),
 (188,⟨.struct [(0,9),(1,97)],4,48,[.string ⟨#[]⟩,.int .i64 0,.int .i64 0,.string ⟨#[]⟩],true⟩),
 (189,⟨.struct [(0,9),(1,3)],2,24,[.string ⟨#[]⟩,.int .i64 0],true⟩),
 (190,⟨.struct [(0,9),(1,3)],2,24,[.string ⟨#[]⟩,.int .i64 0],true⟩),
 (201,⟨.struct [(0,3),(1,3),(2,9)],3,32,[.int .i64 0,.int .i64 0,.string ⟨#[]⟩],true⟩),
 (202,⟨.struct [(0,9),(1,201)],4,48,[.string ⟨#[]⟩,.int .i64 0,.int .i64 0,.string ⟨#[]⟩],true⟩),
 (203,⟨.struct [(0,9),(1,201)],4,48,[.string ⟨#[]⟩,.int .i64 0,.int .i64 0,.string ⟨#[]⟩],true⟩),
 (205,⟨.slice 293,1,24,[.slice none 0 0],true⟩),
 (206,⟨.struct [(0,9),(1,205)],2,40,[.string ⟨#[]⟩,.slice none 0 0],true⟩),
 (207,⟨.struct [(0,9),(1,205)],2,40,[.string ⟨#[]⟩,.slice none 0 0],true⟩),
 (209,⟨.struct [(0,3),(1,201)],4,40,[.int .i64 0,.int .i64 0,.int .i64 0,.string ⟨#[]⟩],true⟩),
 (210,⟨.struct [(0,3),(1,201)],4,40,[.int .i64 0,.int .i64 0,.int .i64 0,.string ⟨#[]⟩],true⟩),
 (247,⟨.struct [(0,3),(1,9),(2,9),(3,117),(4,120),(5,120)],6,112,[.int .i64 0,.string ⟨#[]⟩,.string ⟨#[]⟩,.slice none 0 0,.slice none 0 0,.slice none 0 0],true⟩),
 (248,⟨.struct [(0,3),(1,9),(2,9),(3,117),(4,120),(5,120)],6,112,[.int .i64 0,.string ⟨#[]⟩,.string ⟨#[]⟩,.slice none 0 0,.slice none 0 0,.slice none 0 0],true⟩),
 (252,⟨.struct [(0,9),(1,3)],2,24,[.string ⟨#[]⟩,.int .i64 0],true⟩),
 (254,⟨.struct [(0,39),(1,3)],2,32,[.slice none 0 0,.int .i64 0],true⟩),
 (255,⟨.struct [(0,39),(1,3)],2,32,[.slice none 0 0,.int .i64 0],true⟩),
 (267,⟨.struct [(0,4),(1,3)],2,16,[.bool false,.int .i64 0],true⟩),
 (268,⟨.struct [(0,4),(1,3)],2,16,[.bool false,.int .i64 0],true⟩),
 (270,⟨.struct [(0,4),(1,3)],2,16,[.bool false,.int .i64 0],true⟩),
 (271,⟨.struct [(0,4),(1,3),(2,3),(3,3),(4,3)],5,40,[.bool false,.int .i64 0,.int .i64 0,.int .i64 0,.int .i64 0],true⟩),
 (272,⟨.struct [(0,4),(1,3),(2,3),(3,3),(4,3)],5,40,[.bool false,.int .i64 0,.int .i64 0,.int .i64 0,.int .i64 0],true⟩),
 (274,⟨.struct [(0,4),(1,3),(2,3),(3,3),(4,3)],5,40,[.bool false,.int .i64 0,.int .i64 0,.int .i64 0,.int .i64 0],true⟩),
 (275,⟨.struct [(0,39),(1,3)],2,32,[.slice none 0 0,.int .i64 0],true⟩),
 (282,⟨.int .u64,1,8,[.int .u64 0],true⟩),
 (292,⟨.struct [(0,9),(1,201)],4,48,[.string ⟨#[]⟩,.int .i64 0,.int .i64 0,.string ⟨#[]⟩],true⟩),
 (293,⟨.struct [(0,9),(1,201)],4,48,[.string ⟨#[]⟩,.int .i64 0,.int .i64 0,.string ⟨#[]⟩],true⟩),
 (301,⟨.int .i64,1,8,[.int .i64 0],true⟩),
 (310,⟨.int .u32,1,4,[.int .u32 0],true⟩),
 (316,⟨.int .u64,1,8,[.int .u64 0],true⟩),
 (320,⟨.ptr 3,1,8,[.pointer none],true⟩),
 (324,⟨.slice 150,1,24,[.slice none 0 0],true⟩),
 (326,⟨.ptr 316,1,8,[.pointer none],true⟩),
 (329,⟨.slice 331,1,24,[.slice none 0 0],true⟩),
 (330,⟨.struct [(0,3),(1,9),(2,329)],3,48,[.int .i64 0,.string ⟨#[]⟩,.slice none 0 0],true⟩),
 (331,⟨.struct [(0,3),(1,9),(2,329)],3,48,[.int .i64 0,.string ⟨#[]⟩,.slice none 0 0],true⟩),
 (334,⟨.ptr 336,1,8,[.pointer none],true⟩),
 (335,⟨.struct [(0,9),(1,3),(2,4),(3,3)],4,40,[.string ⟨#[]⟩,.int .i64 0,.bool false,.int .i64 0],true⟩),
 (336,⟨.struct [(0,9),(1,3),(2,4),(3,3)],4,40,[.string ⟨#[]⟩,.int .i64 0,.bool false,.int .i64 0],true⟩),
 (339,⟨.ptr 341,1,8,[.pointer none],true⟩),
 (340,⟨.struct [(0,9),(1,3),(2,3),(3,4)],4,40,[.string ⟨#[]⟩,.int .i64 0,.int .i64 0,.bool false],true⟩),
 (341,⟨.struct [(0,9),(1,3),(2,3),(3,4)],4,40,[.string ⟨#[]⟩,.int .i64 0,.int .i64 0,.bool false],true⟩),
 (354,⟨.ptr 356,1,8,[.pointer none],true⟩),
 (355,⟨.struct [(0,354),(1,33)],2,32,[.pointer none,.slice none 0 0],true⟩),
 (356,⟨.struct [(0,354),(1,33)],2,32,[.pointer none,.slice none 0 0],true⟩),
 (363,⟨.ptr 5,1,8,[.pointer none],true⟩)]
theorem look_cons {P:Program} {k:Nat} {v:TI} {l:List (Nat×TI)} (h:tyOf P k=some v) (hl:∀n ti,look l n=some ti->tyOf P n=some ti):∀n ti,look ((k,v)::l) n=some ti->tyOf P n=some ti:=by
 intro n ti hx;simp only[look] at hx
 split at hx
 ·rename_i hk;subst hk;simp at hx;subst hx;exact h
 ·exact hl n ti hx
theorem look_nil {P:Program}:∀n ti,look [] n=some ti->tyOf P n=some ti:=by intro n ti hx;simp[look] at hx
set_option maxRecDepth 100000 in
theorem tyK:∀n ti,tys n=some ti->tyOf Tryz.prog n=some ti:=by
 unfold tys
 repeat' first | exact look_nil | refine look_cons (by kernel_rfl) ?_
abbrev SzOk (f:FuncId) (args:Int->List AV) (s:Nat):Prop:=∀left,lefts left->ACl Tryz.prog f (args left) [] (fun res bx=>∃r,szR s left r/\res=litI r/\bx=[])
abbrev ToOk (f:FuncId) (args:List AV) (r:AV):Prop:=ACl Tryz.prog f args [] (fun res bx=>res=r/\bx=[])
abbrev EqOk (f:FuncId) (a:AV):Prop:=ACl Tryz.prog f [a,a] [] (fun res bx=>res=litB true/\bx=[])
def tysF (n:Nat):Option TI:=match look [(176,⟨.other,1,8,[.nilFunc],true⟩),(180,⟨.other,1,8,[.nilFunc],true⟩),(183,⟨.other,1,8,[.nilFunc],true⟩)] n with
 | some ti=>some ti
 | none=>tys n
theorem tysF_ok:∀n ti,tysF n=some ti->tyOf Tryz.prog n=some ti:=by
 have h1:∀n ti,look [(176,(⟨.other,1,8,[.nilFunc],true⟩:TI)),(180,⟨.other,1,8,[.nilFunc],true⟩),(183,⟨.other,1,8,[.nilFunc],true⟩)] n=some ti->tyOf Tryz.prog n=some ti:=by
  repeat' first | exact look_nil | refine look_cons (by kernel_rfl) ?_
 intro n ti h;unfold tysF at h
 split at h
 ·rename_i hl
  rw[<-h];exact h1 n _ hl
 ·exact tyK n ti h
end Go.Gv
