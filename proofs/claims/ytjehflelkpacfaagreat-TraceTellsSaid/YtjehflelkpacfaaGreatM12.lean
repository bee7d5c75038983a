/- The program's types, as far as the walks ask for them. Printed by a program of mine out of the seat's translation. -/
import Derived.Test.YtjehflelkpacfaaGreatM11
import Derived.Test.YtjehflelkpacfaaGreatChecked
set_option linter.unusedVariables false
set_option linter.unusedSimpArgs false
set_option linter.unusedSectionVars false
set_option maxRecDepth 100000
namespace Go.Proofs.YtjehflelkpacfaaGreat
open Go
def tab:List (TypeId×TyI):=[
 (1,⟨.other,1,8,[.nilFunc]⟩),
 (2,⟨.int .i64,1,8,[.int .i64 0]⟩),
 (3,⟨.int .i64,1,8,[.int .i64 0]⟩),
 (4,⟨.bool,1,1,[.bool false]⟩),
 (5,⟨.int .u8,1,1,[.int .u8 0]⟩),
 (9,⟨.string,1,16,[.string ⟨#[]⟩]⟩),
 (12,⟨.int .u64,1,8,[.int .u64 0]⟩),
 (15,⟨.pointer 201,1,8,[.pointer none]⟩),
 (16,⟨.pointer 204,1,8,[.pointer none]⟩),
 (17,⟨.pointer 213,1,8,[.pointer none]⟩),
 (20,⟨.other,1,16,[.nilIface]⟩),
 (21,⟨.int .i32,1,4,[.int .i32 0]⟩),
 (22,⟨.slice 90,1,24,[.slice none 0 0]⟩),
 (23,⟨.slice 115,1,24,[.slice none 0 0]⟩),
 (24,⟨.struct [(0,22),(1,23)],2,48,[.slice none 0 0, .slice none 0 0]⟩),
 (25,⟨.struct [(0,22),(1,23)],2,48,[.slice none 0 0, .slice none 0 0]⟩),
 (26,⟨.slice 67,1,24,[.slice none 0 0]⟩),
 (27,⟨.slice 57,1,24,[.slice none 0 0]⟩),
 (28,⟨.int .i64,1,8,[.int .i64 0]⟩),
 (30,⟨.other,1,8,[.nilFunc]⟩),
 (31,⟨.other,1,8,[.nilFunc]⟩),
 (32,⟨.other,1,8,[.nilFunc]⟩),
 (33,⟨.slice 102,1,24,[.slice none 0 0]⟩),
 (34,⟨.slice 63,1,24,[.slice none 0 0]⟩),
 (35,⟨.struct [(0,33),(1,34),(2,3)],3,56,[.slice none 0 0, .slice none 0 0, .int .i64 0]⟩),
 (36,⟨.struct [(0,33),(1,34),(2,3)],3,56,[.slice none 0 0, .slice none 0 0, .int .i64 0]⟩),
 (37,⟨.slice 42,1,24,[.slice none 0 0]⟩),
 (39,⟨.other,1,8,[.nilFunc]⟩),
 (40,⟨.other,1,8,[.nilFunc]⟩),
 (41,⟨.struct [(0,28),(1,3)],2,16,[.int .i64 0, .int .i64 0]⟩),
 (42,⟨.struct [(0,28),(1,3)],2,16,[.int .i64 0, .int .i64 0]⟩),
 (44,⟨.other,1,8,[.nilFunc]⟩),
 (45,⟨.other,1,8,[.nilFunc]⟩),
 (46,⟨.other,1,8,[.nilFunc]⟩),
 (47,⟨.pointer 54,1,8,[.pointer none]⟩),
 (48,⟨.other,1,8,[.nilFunc]⟩),
 (49,⟨.pointer 25,1,8,[.pointer none]⟩),
 (50,⟨.slice 55,1,24,[.slice none 0 0]⟩),
 (51,⟨.slice 91,1,24,[.slice none 0 0]⟩),
 (52,⟨.slice 91,1,24,[.slice none 0 0]⟩),
 (53,⟨.struct [(0,50),(1,52),(2,3)],3,56,[.slice none 0 0, .slice none 0 0, .int .i64 0]⟩),
 (54,⟨.struct [(0,50),(1,52),(2,3)],3,56,[.slice none 0 0, .slice none 0 0, .int .i64 0]⟩),
 (55,⟨.pointer 65,1,8,[.pointer none]⟩),
 (56,⟨.struct [(0,3),(1,3),(2,3),(3,2)],4,32,[.int .i64 0, .int .i64 0, .int .i64 0, .int .i64 0]⟩),
 (57,⟨.struct [(0,3),(1,3),(2,3),(3,2)],4,32,[.int .i64 0, .int .i64 0, .int .i64 0, .int .i64 0]⟩),
 (58,⟨.other,1,8,[.nilFunc]⟩),
 (59,⟨.other,1,16,[.nilIface]⟩),
 (60,⟨.other,1,16,[.nilIface]⟩),
 (61,⟨.slice 62,1,24,[.slice none 0 0]⟩),
 (62,⟨.pointer 120,1,8,[.pointer none]⟩),
 (63,⟨.slice 2,1,24,[.slice none 0 0]⟩),
 (64,⟨.struct [(0,49),(1,60),(2,61),(3,62),(4,3),(5,3),(6,3),(7,63),(8,58)],9,112,[.pointer none, .nilIface, .slice none 0 0, .pointer none, .int .i64 0, .int .i64 0, .int .i64 0, .slice none 0 0, .nilFunc]⟩),
 (65,⟨.struct [(0,49),(1,60),(2,61),(3,62),(4,3),(5,3),(6,3),(7,63),(8,58)],9,112,[.pointer none, .nilIface, .slice none 0 0, .pointer none, .int .i64 0, .int .i64 0, .int .i64 0, .slice none 0 0, .nilFunc]⟩),
 (66,⟨.struct [(0,3),(1,3)],2,16,[.int .i64 0, .int .i64 0]⟩),
 (67,⟨.struct [(0,3),(1,3)],2,16,[.int .i64 0, .int .i64 0]⟩),
 (68,⟨.other,1,8,[.nilFunc]⟩),
 (69,⟨.other,1,8,[.nilFunc]⟩),
 (70,⟨.pointer 76,1,8,[.pointer none]⟩),
 (71,⟨.other,1,8,[.nilFunc]⟩),
 (72,⟨.pointer 79,1,8,[.pointer none]⟩),
 (73,⟨.slice 72,1,24,[.slice none 0 0]⟩),
 (74,⟨.pointer 97,1,8,[.pointer none]⟩),
 (75,⟨.struct [(0,73),(1,74),(2,3)],3,40,[.slice none 0 0, .pointer none, .int .i64 0]⟩),
 (76,⟨.struct [(0,73),(1,74),(2,3)],3,40,[.slice none 0 0, .pointer none, .int .i64 0]⟩),
 (77,⟨.slice 140,1,24,[.slice none 0 0]⟩),
 (78,⟨.struct [(0,25),(2,77),(3,3),(4,3),(5,3),(6,3),(7,63),(8,4),(9,3),(10,27)],11,168,[.slice none 0 0, .slice none 0 0, .slice none 0 0, .int .i64 0, .int .i64 0, .int .i64 0, .int .i64 0, .slice none 0 0, .bool false, .int .i64 0, .slice none 0 0]⟩),
 (79,⟨.struct [(0,25),(2,77),(3,3),(4,3),(5,3),(6,3),(7,63),(8,4),(9,3),(10,27)],11,168,[.slice none 0 0, .slice none 0 0, .slice none 0 0, .int .i64 0, .int .i64 0, .int .i64 0, .int .i64 0, .slice none 0 0, .bool false, .int .i64 0, .slice none 0 0]⟩),
 (80,⟨.other,1,8,[.nilFunc]⟩),
 (81,⟨.other,1,8,[.nilFunc]⟩),
 (82,⟨.other,1,8,[.nilFunc]⟩),
 (83,⟨.slice 3,1,24,[.slice none 0 0]⟩),
 (84,⟨.other,1,8,[.nilFunc]⟩),
 (85,⟨.other,1,8,[.nilFunc]⟩),
 (86,⟨.struct [(0,28),(1,3),(2,3)],3,24,[.int .i64 0, .int .i64 0, .int .i64 0]⟩),
 (87,⟨.struct [(0,28),(1,3),(2,3)],3,24,[.int .i64 0, .int .i64 0, .int .i64 0]⟩),
 (88,⟨.other,1,8,[.nilFunc]⟩),
 (89,⟨.struct [(0,3),(1,3)],2,16,[.int .i64 0, .int .i64 0]⟩),
 (90,⟨.struct [(0,3),(1,3)],2,16,[.int .i64 0, .int .i64 0]⟩),
 (91,⟨.pointer 112,1,8,[.pointer none]⟩),
 (92,⟨.other,1,8,[.nilFunc]⟩),
 (93,⟨.other,1,8,[.nilFunc]⟩),
 (94,⟨.other,1,8,[.nilFunc]⟩),
 (95,⟨.other,1,8,[.nilFunc]⟩),
 (96,⟨.struct [(0,83),(1,34)],2,48,[.slice none 0 0, .slice none 0 0]⟩),
 (97,⟨.struct [(0,83),(1,34)],2,48,[.slice none 0 0, .slice none 0 0]⟩),
 (98,⟨.other,1,8,[.nilFunc]⟩),
 (99,⟨.other,1,8,[.nilFunc]⟩),
 (100,⟨.other,1,8,[.nilFunc]⟩),
 (101,⟨.struct [(0,3),(1,3),(2,3),(3,63)],4,48,[.int .i64 0, .int .i64 0, .int .i64 0, .slice none 0 0]⟩),
 (102,⟨.struct [(0,3),(1,3),(2,3),(3,63)],4,48,[.int .i64 0, .int .i64 0, .int .i64 0, .slice none 0 0]⟩),
 (103,⟨.other,1,8,[.nilFunc]⟩),
 (104,⟨.other,1,8,[.nilFunc]⟩),
 (105,⟨.other,1,8,[.nilFunc]⟩),
 (106,⟨.pointer 108,1,8,[.pointer none]⟩),
 (107,⟨.struct [(0,49)],1,8,[.pointer none]⟩),
 (108,⟨.struct [(0,49)],1,8,[.pointer none]⟩),
 (109,⟨.other,1,8,[.nilFunc]⟩),
 (110,⟨.other,1,8,[.nilFunc]⟩),
 (111,⟨.struct [(0,63),(1,3),(2,3)],3,40,[.slice none 0 0, .int .i64 0, .int .i64 0]⟩),
 (112,⟨.struct [(0,63),(1,3),(2,3)],3,40,[.slice none 0 0, .int .i64 0, .int .i64 0]⟩),
 (113,⟨.slice 126,1,24,[.slice none 0 0]⟩),
 (114,⟨.struct [(0,3),(1,3),(2,83),(3,3),(4,3),(5,113)],6,80,[.int .i64 0, .int .i64 0, .slice none 0 0, .int .i64 0, .int .i64 0, .slice none 0 0]⟩),
 (115,⟨.struct [(0,3),(1,3),(2,83),(3,3),(4,3),(5,113)],6,80,[.int .i64 0, .int .i64 0, .slice none 0 0, .int .i64 0, .int .i64 0, .slice none 0 0]⟩),
 (116,⟨.other,1,8,[.nilFunc]⟩),
 (117,⟨.slice 123,1,24,[.slice none 0 0]⟩),
 (118,⟨.pointer 169,1,8,[.pointer none]⟩),
 (119,⟨.struct [(0,3),(1,62),(2,117),(3,118)],4,48,[.int .i64 0, .pointer none, .slice none 0 0, .pointer none]⟩),
 (120,⟨.struct [(0,3),(1,62),(2,117),(3,118)],4,48,[.int .i64 0, .pointer none, .slice none 0 0, .pointer none]⟩),
 (121,⟨.pointer 123,1,8,[.pointer none]⟩),
 (122,⟨.struct [(0,3),(1,3),(2,3)],3,24,[.int .i64 0, .int .i64 0, .int .i64 0]⟩),
 (123,⟨.struct [(0,3),(1,3),(2,3)],3,24,[.int .i64 0, .int .i64 0, .int .i64 0]⟩),
 (124,⟨.other,1,8,[.nilFunc]⟩),
 (125,⟨.struct [(0,3),(1,3),(2,2)],3,24,[.int .i64 0, .int .i64 0, .int .i64 0]⟩),
 (126,⟨.struct [(0,3),(1,3),(2,2)],3,24,[.int .i64 0, .int .i64 0, .int .i64 0]⟩),
 (127,⟨.other,1,8,[.nilFunc]⟩),
 (128,⟨.pointer 2,1,8,[.pointer none]⟩),
 (129,⟨.other,1,8,[.nilFunc]⟩),
 (130,⟨.other,1,8,[.nilFunc]⟩),
 (131,⟨.other,1,8,[.nilFunc]⟩),
 (132,⟨.other,1,8,[.nilFunc]⟩),
 (133,⟨.other,1,8,[.nilFunc]⟩),
 (134,⟨.other,1,8,[.nilFunc]⟩),
 (135,⟨.other,1,8,[.nilFunc]⟩),
 (136,⟨.other,1,8,[.nilFunc]⟩),
 (137,⟨.other,1,8,[.nilFunc]⟩),
 (138,⟨.slice 148,1,24,[.slice none 0 0]⟩),
 (139,⟨.struct [(0,3),(1,3),(2,138),(3,63)],4,64,[.int .i64 0, .int .i64 0, .slice none 0 0, .slice none 0 0]⟩),
 (140,⟨.struct [(0,3),(1,3),(2,138),(3,63)],4,64,[.int .i64 0, .int .i64 0, .slice none 0 0, .slice none 0 0]⟩),
 (141,⟨.other,1,8,[.nilFunc]⟩),
 (142,⟨.other,1,16,[.nilIface]⟩),
 (143,⟨.other,1,16,[.nilIface]⟩),
 (144,⟨.other,1,8,[.nilFunc]⟩),
 (145,⟨.pointer 140,1,8,[.pointer none]⟩),
 (146,⟨.pointer 148,1,8,[.pointer none]⟩),
 (147,⟨.struct [(0,3),(1,3),(2,3)],3,24,[.int .i64 0, .int .i64 0, .int .i64 0]⟩),
 (148,⟨.struct [(0,3),(1,3),(2,3)],3,24,[.int .i64 0, .int .i64 0, .int .i64 0]⟩),
 (149,⟨.other,1,8,[.nilFunc]⟩),
 (150,⟨.other,1,8,[.nilFunc]⟩),
 (151,⟨.other,1,8,[.nilFunc]⟩),
 (152,⟨.pointer 115,1,8,[.pointer none]⟩),
 (153,⟨.other,1,8,[.nilFunc]⟩),
 (154,⟨.other,1,8,[.nilFunc]⟩),
 (155,⟨.pointer 161,1,8,[.pointer none]⟩),
 (156,⟨.map 3 159,1,8,[.map none]⟩),
 (157,⟨.slice 4,1,24,[.slice none 0 0]⟩),
 (158,⟨.struct [(0,83),(1,157)],2,48,[.slice none 0 0, .slice none 0 0]⟩),
 (159,⟨.struct [(0,83),(1,157)],2,48,[.slice none 0 0, .slice none 0 0]⟩),
 (160,⟨.struct [(0,106),(1,152),(2,156),(3,83),(4,159),(6,28)],7,104,[.pointer none, .pointer none, .map none, .slice none 0 0, .slice none 0 0, .slice none 0 0, .int .i64 0]⟩),
 (161,⟨.struct [(0,106),(1,152),(2,156),(3,83),(4,159),(6,28)],7,104,[.pointer none, .pointer none, .map none, .slice none 0 0, .slice none 0 0, .slice none 0 0, .int .i64 0]⟩),
 (162,⟨.other,1,8,[.nilFunc]⟩),
 (163,⟨.other,1,8,[.nilFunc]⟩),
 (164,⟨.other,1,8,[.nilFunc]⟩),
 (165,⟨.other,1,8,[.nilFunc]⟩),
 (166,⟨.other,1,8,[.nilFunc]⟩),
 (167,⟨.other,1,8,[.nilFunc]⟩),
 (168,⟨.struct [(0,63),(1,3),(2,3),(3,3)],4,48,[.slice none 0 0, .int .i64 0, .int .i64 0, .int .i64 0]⟩),
 (169,⟨.struct [(0,63),(1,3),(2,3),(3,3)],4,48,[.slice none 0 0, .int .i64 0, .int .i64 0, .int .i64 0]⟩),
 (170,⟨.other,1,8,[.nilFunc]⟩),
 (171,⟨.other,1,8,[.nilFunc]⟩),
 (172,⟨.other,1,8,[.nilFunc]⟩),
 (173,⟨.other,1,8,[.nilFunc]⟩),
 (174,⟨.slice 176,1,24,[.slice none 0 0]⟩),
 (175,⟨.struct [(0,4),(1,9),(2,157)],3,48,[.bool false, .string ⟨#[]⟩, .slice none 0 0]⟩),
 (176,⟨.struct [(0,4),(1,9),(2,157)],3,48,[.bool false, .string ⟨#[]⟩, .slice none 0 0]⟩),
 (177,⟨.other,1,8,[.nilFunc]⟩),
 (179,⟨.other,1,8,[.nilFunc]⟩),
 (180,⟨.slice 5,1,24,[.slice none 0 0]⟩),
 (181,⟨.other,1,8,[.nilFunc]⟩),
 (183,⟨.other,1,8,[.nilFunc]⟩),
 (184,⟨.pointer 176,1,8,[.pointer none]⟩),
 (185,⟨.other,1,8,[.nilFunc]⟩),
 (186,⟨.other,1,8,[.nilFunc]⟩),
 (188,⟨.other,1,8,[.nilFunc]⟩),
 (189,⟨.other,1,8,[.nilFunc]⟩),
 (190,⟨.other,1,8,[.nilFunc]⟩),
 (191,⟨.other,1,8,[.nilFunc]⟩),
 (192,⟨.other,1,8,[.nilFunc]⟩),
 (193,⟨.other,1,8,[.nilFunc]⟩),
 (194,⟨.other,1,8,[.nilFunc]⟩),
 (195,⟨.other,1,8,[.nilFunc]⟩),
 (196,⟨.other,1,8,[.nilFunc]⟩),
 (197,⟨.other,1,8,[.nilFunc]⟩),
 (198,⟨.other,1,8,[.nilFunc]⟩),
 (199,⟨.other,1,8,[.nilFunc]⟩),
 (205,⟨.int .u32,1,4,[.int .u32 0]⟩),
 (208,⟨.other,1,8,[.nilFunc]⟩),
 (209,⟨.pointer 5,1,8,[.pointer none]⟩),
 (212,⟨.struct [(0,12),(1,12),(2,205),(3,206),(4,5),(5,5),(6,207),(7,208),(8,209),(9,210),(10,211)],11,48,[.int .u64 0, .int .u64 0, .int .u32 0, .int .u8 0, .int .u8 0, .int .u8 0, .int .u8 0, .nilFunc, .pointer none, .int .i32 0, .int .i32 0]⟩)
]
theorem tab_ok:∀p∈tab,TyOk Tryz.prog p.1 p.2:=by
 unfold tab
 repeat(refine List.forall_mem_cons.2 ⟨⟨by kernel_rfl,by kernel_rfl⟩,?_⟩)
 simp
instance:Tabbed Tryz.prog:=⟨tab,tab_ok⟩
end Go.Proofs.YtjehflelkpacfaaGreat
namespace Go.Proofs.YtjehflelkpacfaaGreat.Vm
open ImgM Ver Opt
abbrev Ev:=Int×Int×Int
def rec(x:Int):Env (List Ev) where
 full _ _:=false
 empty _ _:=false
 put s _ _:=s
 take s _:=(x,s)
 tell s e:=s ++[e]
section
variable{ν:Type}(V:Env ν)(M:Mdl)
def play(s:ν)(e:Ev):ν:=if e.1=2 then V.tell (V.put s e.2.1.toNat e.2.2) e else if e.1=3 then V.tell (V.take s e.2.1.toNat).2 e else V.tell s e
def loc(x:Int)(i:Ins)(t:Tk):Tk×List Ev:=exec (rec x) M i (t,[])
abbrev pl(s:ν)(r:Tk×List Ev):Tk×ν:=(r.1,r.2.foldl (play V) s)
variable(x:Int)(s:ν)
theorem pl_told(t:Tk)(l:List Ev)(e:Ev)(h2:e.1≠2)(h3:e.1≠3):pl V s (t,l ++[e])=(t,V.tell (l.foldl (play V) s) e):=by
 unfold pl;simp only[List.foldl_append,List.foldl_cons,List.foldl_nil];rw[show play V (l.foldl (play V) s) e=V.tell (l.foldl (play V) s) e by unfold play;rw[if_neg h2,if_neg h3]]
theorem trap_pl(n:Int)(r:Tk×List Ev):trap V n (pl V s r)=pl V s (trap (rec x) n r):=by
 obtain⟨t,l⟩:=r;unfold trap
 by_cases h:t.st=5
 ·rw[if_pos (show(pl V s (t,l)).1.st=5 from h),if_pos (show(t,l).1.st=5 from h)]
 ·rw[if_neg (show¬(pl V s (t,l)).1.st=5 from h),if_neg (show¬(t,l).1.st=5 from h)];exact(pl_told V s _ l (5,0,n) (by simp) (by simp)).symm
theorem push_pl(v:Int)(r:Tk×List Ev):push V v (pl V s r)=pl V s (push (rec x) v r):=by
 unfold push
 by_cases h:(cur r.1).ws.length=400
 ·rw[if_pos (show(cur (pl V s r).1).ws.length=400 from h),if_pos h];exact trap_pl V x s 4 r
 ·rw[if_neg (show¬(cur (pl V s r).1).ws.length=400 from h),if_neg h]
theorem pushN_pl:∀(n:Nat) (r:Tk×List Ev),pushN V n (pl V s r)=pl V s (pushN (rec x) n r)
 |0,r=>rfl
 |n+1,r=>by
  unfold pushN;rw[push_pl V x s 0 r];exact pushN_pl n _
theorem pl_ite{c:Prop} [Decidable c]{a b:Tk×ν}{a' b':Tk×List Ev}(h1:a=pl V s a')(h2:b=pl V s b'):(if c then a else b)=pl V s (if c then a' else b'):=by
 split
 ·exact h1
 ·exact h2
theorem exec_pl(i:Ins)(t:Tk)(hx:i.op=27→x=(V.take s i.a.toNat).1):exec V M i (t,s)=pl V s (loc M x i t):=by
 have e0:∀t:Tk,(t,s)=pl V s (t,[]):=fun _=>rfl
 have tl:∀(t:Tk) (e:Ev),e.1≠2→e.1≠3→(t,V.tell s e)=pl V s (t,[e]):=fun t e h2 h3=>(pl_told V s t [] e h2 h3).symm
 unfold loc exec;dsimp only;refine pl_ite V s (push_pl V x s _ (_,[])) ?_;refine pl_ite V s (push_pl V x s _ (_,[])) ?_;refine pl_ite V s (push_pl V x s _ (_,[])) ?_;refine pl_ite V s rfl ?_;refine pl_ite V s rfl ?_;refine pl_ite V s (push_pl V x s _ (_,[])) ?_;refine pl_ite V s (push_pl V x s _ (_,[])) ?_;refine pl_ite V s (pl_ite V s (trap_pl V x s _ (_,[])) (push_pl V x s _ (_,[]))) ?_;refine pl_ite V s rfl ?_;refine pl_ite V s rfl ?_;refine pl_ite V s rfl ?_
 by_cases h27:i.op=27
 ·rw[if_pos h27,if_pos h27];have hx:=hx h27;have e:((t,V.tell (V.take s i.a.toNat).2 (3,i.a,(V.take s i.a.toNat).1)):Tk×ν)=pl V s (t,[] ++[(3,i.a,x)]):=by
   rw[←hx];rfl
  rw[e,←hx];exact push_pl V x s _ (t,[] ++[(3,i.a,x)])
 rw[if_neg h27,if_neg h27];refine pl_ite V s (tl _ _ (by simp) (by simp)) ?_;refine pl_ite V s ?_ ?_
 ·unfold callU;refine pl_ite V s (trap_pl V x s _ (_,[])) (pushN_pl V x s _ (_,[]))
 refine pl_ite V s ?_ ?_
 ·exact push_pl V x s _ (_,[])
 refine pl_ite V s ?_ ?_
 ·unfold endU;dsimp only
  cases(cur t).up with
  |none=>exact tl _ _ (by simp) (by simp)
  |some j=>exact push_pl V x s _ (_,[])
 refine pl_ite V s ?_ ?_
 ·unfold startU;dsimp only;refine pl_ite V s (trap_pl V x s _ (_,[])) ?_;rw[tl _ _ (by simp) (by simp)];exact push_pl V x s _ (_,[_])
 refine pl_ite V s ?_ ?_
 ·unfold resumeU;dsimp only;refine pl_ite V s (trap_pl V x s _ (_,[])) ?_;refine pl_ite V s (trap_pl V x s _ (_,[])) ?_;exact pl_ite V s rfl (push_pl V x s _ (_,[]))
 refine pl_ite V s ?_ ?_
 ·exact push_pl V x s _ (_,[])
 exact pl_ite V s (push_pl V x s _ (_,[])) rfl
end
def outs(l:List Ev):List Int:=l.filterMap fun e=>if e.1=1 then some e.2.2 else none
theorem outs_app(a b:List Ev):outs (a ++b)=outs a ++outs b:=List.filterMap_append ..
def Psh(t:Tk)(l:List Ev)(r:Tk×List Ev):Prop:=
 (r.2=l∧r.1.st=t.st∧r.1.tr=t.tr∧r.1.out=t.out)∨(r.2=l ++[(5,0,r.1.tr)]∧r.1.st=5∧r.1.out=t.out)
section
variable{x:Int}
theorem trap_psh(n:Int)(r:Tk×List Ev)(h:r.1.st≠5):Psh r.1 r.2 (trap (rec x) n r):=by
 unfold trap;rw[if_neg h];exact .inr ⟨rfl,rfl,rfl⟩
theorem push_psh(v:Int)(r:Tk×List Ev)(h:r.1.st≠5):Psh r.1 r.2 (push (rec x) v r):=by
 unfold push
 split
 ·exact trap_psh _ r h
 ·exact .inl ⟨rfl,rfl,rfl,rfl⟩
theorem push_t{v:Int}{r:Tk×List Ev}(h:r.1.st=5):(push (rec x) v r).2=r.2∧(push (rec x) v r).1.st=5∧(push (rec x) v r).1.tr=r.1.tr∧(push (rec x) v r).1.out=r.1.out:=by
 unfold push
 split
 ·unfold trap;rw[if_pos h];exact⟨rfl,h,rfl,rfl⟩
 ·exact⟨rfl,h,rfl,rfl⟩
theorem pushN_t:∀(n:Nat) {r:Tk×List Ev},r.1.st=5→(pushN (rec x) n r).2=r.2∧(pushN (rec x) n r).1.st=5∧(pushN (rec x) n r).1.tr=r.1.tr∧(pushN (rec x) n r).1.out=r.1.out
 |0,r,h=>⟨rfl,h,rfl,rfl⟩
 |n+1,r,h=>by
  unfold pushN;obtain⟨h1,h2,h3,h4⟩:=push_t (x:=x) (v:=0) h;obtain⟨g1,g2,g3,g4⟩:=pushN_t n h2;exact⟨g1.trans h1,g2,g3.trans h3,g4.trans h4⟩
theorem pushN_psh:∀(n:Nat) (r:Tk×List Ev),r.1.st≠5→Psh r.1 r.2 (pushN (rec x) n r)
 |0,r,h=> .inl ⟨rfl,rfl,rfl,rfl⟩
 |n+1,r,h=>by
  unfold pushN;rcases push_psh (x:=x) 0 r h with⟨h1,h2,h3,h4⟩|⟨h1,h2,h3⟩
  ·rcases pushN_psh n (push (rec x) 0 r) (by rw[h2];exact h)with⟨g1,g2,g3,g4⟩|⟨g1,g2,g3⟩
   ·exact .inl ⟨g1.trans h1,g2.trans h2,g3.trans h3,g4.trans h4⟩
   ·exact .inr ⟨by rw[g1,h1],g2,g3.trans h4⟩
  ·obtain⟨g1,g2,g3,g4⟩:=pushN_t (x:=x) n h2;exact .inr ⟨by rw[g1,h1,g3],g2,g4.trans h3⟩
structure Did(i:Ins)(x:Int)(t:Tk)(r:Tk×List Ev):Prop where
 ex:(∃t1 l1,Psh t1 l1 r∧t1.st=t.st∧t1.tr=t.tr∧t1.out=t.out ++outs l1∧(l1=[]∧i.op≠26∧i.op≠27∨i.op=26∧l1=[(2,i.a,last t)]∨i.op=27∧l1=[(3,i.a,x)]∨i.op=28∧l1=[(1,0,last t)]∨i.op=29∧l1=[(6,0,(i.a.toNat:Int))]))∨(i.op=25∧r.2=[(4,0,0)]∧r.1.st=4∧r.1.tr=t.tr∧r.1.out=t.out)
theorem loc_did(M:Mdl)(x:Int)(i:Ins)(t:Tk)(h5:t.st≠5):Did i x t (loc M x i t):=by
 have nil:∀{r:Tk×List Ev} {t1:Tk},Psh t1 [] r→t1.st=t.st→t1.tr=t.tr→t1.out=t.out→i.op≠26→i.op≠27→Did i x t r:=fun{r t1} h1 h2 h3 h4 h6 h7=>
  ⟨.inl ⟨t1,[],h1,h2,h3,by rw[h4];simp[outs], .inl ⟨rfl,h6,h7⟩⟩⟩
 have pn:∀(v:Int) (t1:Tk),t1.st=t.st→t1.tr=t.tr→t1.out=t.out→i.op≠26→i.op≠27→Did i x t (push (rec x) v (t1,[])):=fun v t1 h2 h3 h4 h6 h7=>
  nil (push_psh v (t1,[]) (by show t1.st≠5;rw[h2];exact h5)) h2 h3 h4 h6 h7
 have tn:∀(n:Int) (t1:Tk),t1.st=t.st→t1.tr=t.tr→t1.out=t.out→i.op≠26→i.op≠27→Did i x t (trap (rec x) n (t1,[])):=fun v t1 h2 h3 h4 h6 h7=>
  nil (trap_psh v (t1,[]) (by show t1.st≠5;rw[h2];exact h5)) h2 h3 h4 h6 h7
 have sn:∀(t1:Tk),t1.st=t.st→t1.tr=t.tr→t1.out=t.out→i.op≠26→i.op≠27→Did i x t (t1,[]):=fun t1 h2 h3 h4 h6 h7=>
  nil (.inl ⟨rfl,rfl,rfl,rfl⟩) h2 h3 h4 h6 h7
 unfold loc exec;dsimp only
 by_cases h1:i.op=1
 ·rw[if_pos h1];exact pn _ _ rfl rfl rfl (by omega) (by omega)
 rw[if_neg h1]
 by_cases h1:i.op=2
 ·rw[if_pos h1];exact pn _ _ rfl rfl rfl (by omega) (by omega)
 rw[if_neg h1]
 by_cases h1:i.op=3
 ·rw[if_pos h1];exact pn _ _ rfl rfl rfl (by omega) (by omega)
 rw[if_neg h1]
 by_cases h1:i.op=4
 ·rw[if_pos h1];exact sn _ rfl rfl rfl (by omega) (by omega)
 rw[if_neg h1]
 by_cases h1:i.op=5
 ·rw[if_pos h1];exact sn _ rfl rfl rfl (by omega) (by omega)
 rw[if_neg h1]
 by_cases h1:i.op=6
 ·rw[if_pos h1];exact pn _ _ rfl rfl rfl (by omega) (by omega)
 rw[if_neg h1]
 by_cases h1:i.op=7
 ·rw[if_pos h1];exact pn _ _ rfl rfl rfl (by omega) (by omega)
 rw[if_neg h1]
 by_cases h1:8≤i.op∧i.op≤20
 ·rw[if_pos h1]
  split
  ·exact tn _ _ rfl rfl rfl (by omega) (by omega)
  ·exact pn _ _ rfl rfl rfl (by omega) (by omega)
 rw[if_neg h1]
 by_cases h1:i.op=21
 ·rw[if_pos h1];exact sn _ rfl rfl rfl (by omega) (by omega)
 rw[if_neg h1]
 by_cases h1:i.op=22
 ·rw[if_pos h1]
  split
  ·exact sn _ rfl rfl rfl (by omega) (by omega)
  ·exact sn _ rfl rfl rfl (by omega) (by omega)
 rw[if_neg h1]
 by_cases h1:i.op=26
 ·rw[if_pos h1];exact⟨.inl ⟨drop 1 t,[(2,i.a,last t)], .inl ⟨rfl,rfl,rfl,rfl⟩,rfl,rfl,by simp[outs,drop,setCur,setC], .inr (.inl ⟨h1,rfl⟩)⟩⟩
 rw[if_neg h1]
 by_cases h1:i.op=27
 ·rw[if_pos h1];exact⟨.inl ⟨t,[(3,i.a,x)],push_psh x (t,[(3,i.a,x)]) h5,rfl,rfl,by simp[outs], .inr (.inr (.inl ⟨h1,rfl⟩))⟩⟩
 rw[if_neg h1]
 by_cases h1:i.op=28
 ·rw[if_pos h1];exact⟨.inl ⟨{drop 1 t with out:=(drop 1 t).out ++[last t]},[(1,0,last t)], .inl ⟨rfl,rfl,rfl,rfl⟩,rfl,rfl,by simp[outs,drop,setCur,setC], .inr (.inr (.inr (.inl ⟨h1,rfl⟩)))⟩⟩
 rw[if_neg h1]
 by_cases h1:i.op=23
 ·rw[if_pos h1];unfold callU
  split
  ·exact tn _ _ rfl rfl rfl (by omega) (by omega)
  ·refine nil (pushN_psh _ (_,[]) ?_) rfl rfl rfl (by omega) (by omega);exact h5
 rw[if_neg h1]
 by_cases h1:i.op=24
 ·rw[if_pos h1];exact pn _ _ rfl rfl rfl (by omega) (by omega)
 rw[if_neg h1]
 by_cases h1:i.op=25
 ·rw[if_pos h1];unfold endU;dsimp only
  cases(cur t).up with
  |none=>exact⟨.inr ⟨h1,rfl,rfl,rfl,rfl⟩⟩
  |some j=>exact pn _ _ rfl rfl rfl (by omega) (by omega)
 rw[if_neg h1]
 by_cases h1:i.op=29
 ·rw[if_pos h1];unfold startU;dsimp only
  split
  ·exact tn _ _ rfl rfl rfl (by omega) (by omega)
  ·exact⟨.inl ⟨{drop (unt M i.a.toNat).params.toNat t with cs:=(drop (unt M i.a.toNat).params.toNat t).cs ++[begin M i.a.toNat ((cur t).ws.drop ((cur t).ws.length-(unt M i.a.toNat).params.toNat))]},[(6,0,(i.a.toNat:Int))],push_psh _ (_,[(6,0,(i.a.toNat:Int))]) h5,rfl,rfl,by simp[outs,drop,setCur,setC], .inr (.inr (.inr (.inr ⟨h1,rfl⟩)))⟩⟩
 rw[if_neg h1]
 by_cases h1:i.op=30
 ·rw[if_pos h1];unfold resumeU;dsimp only
  split
  ·exact tn _ _ rfl rfl rfl (by omega) (by omega)
  split
  ·exact tn _ _ rfl rfl rfl (by omega) (by omega)
  split
  ·exact sn _ rfl rfl rfl (by omega) (by omega)
  ·exact pn _ _ rfl rfl rfl (by omega) (by omega)
 rw[if_neg h1]
 by_cases h1:i.op=31
 ·rw[if_pos h1];exact pn _ _ rfl rfl rfl (by omega) (by omega)
 rw[if_neg h1]
 by_cases h1':i.op=32
 ·rw[if_pos h1'];exact pn _ _ rfl rfl rfl (by omega) (by omega)
 rw[if_neg h1'];exact sn _ rfl rfl rfl (by assumption) (by assumption)
end
end Go.Proofs.YtjehflelkpacfaaGreat.Vm
namespace Go.Proofs.YtjehflelkpacfaaGreat.Vw
open Go.RowKit Go.Proofs.YtjehflelkpacfaaGreat.Img
structure EnvR where
 μ:Type
 ν:Type
 V:Vm.Env ν
 abs:μ→ν
 ok:μ→Prop
 mem:μ→Chunk
 size:ν→Nat
 sPut:∀v b x,size (V.put v b x)≤size v+1
 sTake:∀v b,size (V.take v b).2≤size v+1
 excl:∀e,(mem e).excl=true
 rc:Chunk
 rexcl:rc.excl=false
 T:TypeId
 rv:Value
 boxes:Nat
 fRoom:FuncId
 fSome:FuncId
 fGive:FuncId
 fGet:FuncId
 mRoom:Finds Tryz.prog T rv "Room" fRoom
 mSome:Finds Tryz.prog T rv "Some" fSome
 mGive:Finds Tryz.prog T rv "Give" fGive
 mGet:Finds Tryz.prog T rv "Get" fGet
 bRoom:callB Tryz.prog fRoom=true
 bSome:callB Tryz.prog fSome=true
 bGive:callB Tryz.prog fGive=true
 bGet:callB Tryz.prog fGet=true
 room:∀(e:μ) (b:Nat),ok e→b<boxes→Fn Tryz.prog fRoom #[rv, .int .i64 (b:Int)] [rc] [mem e] (σ:=Unit) (fun _=>True) (fun _=> .bool (!V.full (abs e) b)) (fun _=>[mem e])
 some:∀(e:μ) (b:Nat),ok e→b<boxes→Fn Tryz.prog fSome #[rv, .int .i64 (b:Int)] [rc] [mem e] (σ:=Unit) (fun _=>True) (fun _=> .bool (!V.empty (abs e) b)) (fun _=>[mem e])
 give:∀(e:μ) (b:Nat) (v:Int),ok e→b<boxes→V.full (abs e) b=false→size (abs e)≤2000000→Fn Tryz.prog fGive #[rv, .int .i64 (b:Int), .int .i64 v] [rc] [mem e] (σ:=μ) (fun e'=>ok e'∧abs e'=V.put (abs e) b v) (fun _=> .tuple #[]) (fun e'=>[mem e'])
 get:∀(e:μ) (b:Nat),ok e→b<boxes→V.empty (abs e) b=false→Fn Tryz.prog fGet #[rv, .int .i64 (b:Int)] [rc] [mem e] (σ:=μ) (fun e'=>ok e'∧abs e'=(V.take (abs e) b).2) (fun e'=> .int .i64 (V.take (abs e) b).1) (fun e'=>[mem e'])
attribute [simp] EnvR.excl EnvR.rexcl
def EnvR.W(E:EnvR):Vm.Env (E.ν×List Vm.Ev) where
 full v b:=E.V.full v.1 b
 empty v b:=E.V.empty v.1 b
 put v b x:=(E.V.put v.1 b x,v.2)
 take v b:=((E.V.take v.1 b).1,((E.V.take v.1 b).2,v.2))
 tell v x:=(v.1,v.2 ++[x])
abbrev EnvR.mailV(E:EnvR):Value:= .iface E.T E.rv
def rfC(f:Vm.Fr):List Value:=[.int .i64 (f.unit:Int), .int .i64 (f.pc:Int), .int .i64 (f.base:Int)]
instance:Enc rfC:=⟨fun _=>rfl,by decide,fun a u hu=>by simp[rfC]at hu;rcases hu with rfl|rfl|rfl<;>rfl⟩
def revC(e:Vm.Ev):List Value:=[.int .i64 0, .int .i64 e.1, .int .i64 e.2.1, .int .i64 e.2.2]
instance:Enc revC:=⟨fun _=>rfl,by decide,fun a u hu=>by simp[revC]at hu;rcases hu with rfl|rfl|rfl|rfl<;>rfl⟩
structure RC where
 st:Nat
 up:Int
 fo:Option Addr
 fc:Nat
 fr:List Vm.Fr
 wo:Option Addr
 wc:Nat
 ws:List Int
instance:Inhabited RC:=⟨⟨0,0,none,0,[],none,0,[]⟩⟩
def RC.abs(c:RC):Vm.Co:=⟨c.st,if c.st=2∧0≤c.up then some c.up.toNat else none,c.fr,c.ws⟩
def rcC(c:RC):List Value:=[.int .i64 (c.st:Int), .int .i64 c.up, .slice c.fo c.fr.length c.fc, .slice c.wo c.ws.length c.wc]
instance:Enc rcC:=⟨fun _=>rfl,by decide,fun a u hu=>by simp[rcC]at hu;rcases hu with rfl|rfl|rfl|rfl<;>rfl⟩
abbrev rfM(c:RC):Chunk:=arr c.fo c.fr.length c.fc 148 rfC c.fr
abbrev rwM(c:RC):Chunk:=arr c.wo c.ws.length c.wc 2 i64c c.ws
abbrev rcM(c:RC):List Chunk:=[rfM c,rwM c]
def bagR(l:List RC):Chunk:=bag (l.flatMap rcM)
@[simp] theorem bagR_excl (l : List RC) : (bagR l).excl = true := bag_excl
structure RT(E:EnvR) where
 to:Option Addr
 tc:Nat
 oth:List RC
 now:Nat
 cur:RC
 st:Int
 bx:Int
 tr:Int
 oo:Option Addr
 oc:Nat
 out:List Int
 lo:Option Addr
 lc:Nat
 log:List Vm.Ev
 e:E.μ
section
variable{E:EnvR}
def RT.all(s:RT E):List RC:=s.oth.set s.now s.cur
def RT.tk(s:RT E):Vm.Tk:=⟨s.all.map RC.abs,s.now,s.st,s.bx,s.tr,s.out⟩
def RT.two(s:RT E):Vm.Tk×(E.ν×List Vm.Ev):=(s.tk,(E.abs s.e,s.log))
abbrev rkC(m:ML)(s:RT E):List Value:=[.slice m.bo m.bx.length m.bc, .slice m.uo m.us.length m.uc, .slice s.to s.oth.length s.tc, .int .i64 (s.now:Int), .int .i64 s.st, .int .i64 s.bx, .int .i64 s.tr, .slice s.oo s.out.length s.oc, .bool false, .int .i64 0, .slice s.lo s.log.length s.lc]
abbrev rkM(tb:Nat)(m:ML)(s:RT E):Chunk:=blk tb (rkC m s) 79
abbrev rtM(s:RT E):Chunk:=arr s.to s.oth.length s.tc 140 rcC s.all
abbrev roM(s:RT E):Chunk:=arr s.oo s.out.length s.oc 2 i64c s.out
abbrev rlM(s:RT E):Chunk:=arr s.lo s.log.length s.lc 57 revC s.log
abbrev RM(tb:Nat)(m:ML)(s:RT E):List Chunk:=[rkM tb m s,rtM s,bagR (s.oth.eraseIdx s.now),rfM s.cur,rwM s.cur,roM s,rlM s,E.mem s.e]
structure RT.Wf(s:RT E):Prop where
 now:s.now<s.oth.length
 few:s.oth.length≤31
 env:E.ok s.e
 st:s.st≤3∨s.st=4∨s.st=5
variable{s:RT E}
theorem RT.allLen(s:RT E):s.all.length=s.oth.length:=Ji
theorem RT.Wf.curGet(h:s.Wf):s.all.getD s.now default=s.cur:=by
 unfold RT.all;rw[Jd,JS (by exact h.now)];rfl
theorem getD_mapR{α β:Type} [Inhabited α] [Inhabited β](f:α→β)(l:List α){k:Nat}(hk:k<l.length):(l.map f).getD k default=f (l.getD k default):=by
 rw[Jd,Jd,JU,Je hk];rfl
theorem RT.Wf.cur(h:s.Wf):Vm.cur s.tk=s.cur.abs:=by
 show(s.all.map RC.abs).getD s.now default=_;rw[getD_mapR _ _ (by rw[s.allLen];exact h.now),h.curGet]
theorem RT.tkLen(s:RT E):s.tk.cs.length=s.oth.length:=by
 show(s.all.map RC.abs).length=_;rw[Jf,s.allLen]
theorem RT.othGet(s:RT E){j:Nat}(hj:s.now≠j):s.all.getD j default=s.oth.getD j default:=by
 unfold RT.all;simp only[Jd];rw[List.getElem?_set_ne hj]
theorem RT.coAt(s:RT E){j:Nat}(hj:j<s.oth.length):s.tk.cs.getD j default=(s.all.getD j default).abs:=getD_mapR _ _ (by rw[s.allLen];exact hj)
abbrev RT.to_(s:RT E)(c:RC):RT E:={s with cur:=c}
theorem RT.tk_cur(s:RT E)(c:RC):(s.to_ c).tk=Vm.setCur s.tk c.abs:=by
 unfold RT.tk Vm.setCur Vm.setC RT.all;simp only[List.map_set,List.set_set]
theorem RT.all_cur(s:RT E)(c:RC):(s.to_ c).all=s.all.set s.now c:=by
 unfold RT.all;simp only[List.set_set]
theorem RT.Wf.to_(h:s.Wf)(c:RC):(s.to_ c).Wf:=⟨h.now,h.few,h.env,h.st⟩
abbrev RT.f(s:RT E):Vm.Fr:=s.cur.fr.getD (s.cur.fr.length-1) default
theorem RT.Wf.topF(h:s.Wf):Vm.topF (Vm.cur s.tk)=s.f:=by rw[h.cur];rfl
theorem RT.Wf.ws(h:s.Wf):(Vm.cur s.tk).ws=s.cur.ws:=by rw[h.cur];rfl
theorem RT.Wf.frs(h:s.Wf):(Vm.cur s.tk).fr=s.cur.fr:=by rw[h.cur];rfl
theorem RT.Wf.sts(h:s.Wf):(Vm.cur s.tk).st=s.cur.st:=by rw[h.cur];rfl
theorem RT.Wf.topW(h:s.Wf)(n:Nat):Vm.topW s.tk n=s.cur.ws.getD (s.cur.ws.length-n) 0:=by
 show(Vm.cur s.tk).ws.getD ((Vm.cur s.tk).ws.length-n) 0=_;rw[h.ws]
theorem RT.Wf.last(h:s.Wf):Vm.last s.tk=s.cur.ws.getD (s.cur.ws.length-1) 0:=h.topW 1
abbrev RT.setW(s:RT E)(wo:Option Addr)(wc:Nat)(ws:List Int):RT E:=s.to_ {s.cur with wo:=wo,wc:=wc,ws:=ws}
theorem RT.Wf.setW_tk(h:s.Wf)(wo:Option Addr)(wc:Nat)(ws:List Int):(s.setW wo wc ws).tk=Vm.setCur s.tk {Vm.cur s.tk with ws:=ws}:=by
 rw[RT.tk_cur,h.cur];rfl
structure GivesR(q:Vm.Tk×(E.ν×List Vm.Ev))(s:RT E):Prop where
 wf:s.Wf
 two:s.two=q
end
theorem perm_erase{α:Type} [Inhabited α]:∀{l:List α} {k:Nat},k<l.length→l.Perm (l.getD k default::l.eraseIdx k)
 |a::l,0,_=>List.Perm.refl _
 |a::l,k+1,h=>by
  have ih:=perm_erase (l:=l) (k:=k) (by simpa using h);exact(List.Perm.cons a ih).trans (List.Perm.swap _ _ _)
theorem flat_permR(l:List RC){k:Nat}(h:k<l.length):(l.flatMap rcM).Perm (rcM (l.getD k default) ++(l.eraseIdx k).flatMap rcM):=by
 have:=(perm_erase h).flatMap_right rcM;simpa only[List.flatMap_cons]using this
theorem getR_ne{l:List RC}{j k:Nat}{c:RC}(h:j≠k):(l.set j c).getD k default=l.getD k default:=by
 simp only[Jd];rw[List.getElem?_set_ne h]
theorem getR_eq{l:List RC}{k:Nat}{c:RC}(h:k<l.length):(l.set k c).getD k default=c:=by
 simp only[Jd];rw[JS h];rfl
theorem rcM_excl(c:RC):∀d∈rcM c,d.excl=true:=by
 unfold rcM;simp[arr_excl]
theorem Mem.swapR{w:World}{L L' F:List Chunk}{l:List RC}(c:RC){j k:Nat}(h:Mem w L)(t:Take (bagR (l.eraseIdx j)) L L')(t2:Takes (rcM c) L' F)(hj:j<l.length)(hk:k<l.length)(hne:j≠k):Mem w (rfM (l.getD k default)::rwM (l.getD k default)::bagR ((l.set j c).eraseIdx k)::F):=by
 have h1:Mem w (bag ((l.set j c).flatMap rcM)::F):=by
  refine Mem.bagIn (es:=(l.eraseIdx j).flatMap rcM) (ds:=rcM c) h t t2 ?_ (rcM_excl c);have:=flat_permR (l.set j c) (k:=j) (by simpa using hj);rwa [getR_eq hj,List.eraseIdx_set_eq]at this
 have h2:=Mem.bagOut (ds:=rcM (l.getD k default)) (es:=((l.set j c).eraseIdx k).flatMap rcM) h1 .head (by
  have:=flat_permR (l.set j c) (k:=k) (by simpa using hk);rwa [getR_ne hne]at this)
 exact h2
section
variable{E:EnvR}{s:RT E}
abbrev RT.go(s:RT E)(c:RC)(j:Nat)(d:RC):RT E:={s with oth:=s.oth.set s.now c,now:=j,cur:=d}
theorem RT.go_all(s:RT E)(c d:RC)(j:Nat):(s.go c j d).all=(s.oth.set s.now c).set j d:=rfl
theorem RT.go_tk(s:RT E)(c d:RC)(j:Nat):(s.go c j d).tk={Vm.setC (Vm.setCur s.tk c.abs) j d.abs with now:=j}:=by
 unfold RT.tk Vm.setCur Vm.setC RT.all;simp only[List.map_set,List.set_set]
theorem RT.Wf.go(h:s.Wf){c d:RC}{j:Nat}(hj:j<s.oth.length):(s.go c j d).Wf:=⟨by simpa using hj,by simpa using h.few,h.env,h.st⟩
theorem set_getD{l:List RC}{j:Nat}(hj:j<l.length):l.set j (l.getD j default)=l:=by
 refine List.ext_getElem (by simp) fun i h1 h2=>?_
 rw[List.getElem_set]
 split
 ·rename_i h
  subst h;rw[Jd,Je hj];rfl
 ·rfl
theorem RT.go_tk'(s:RT E)(c:RC){j:Nat}(hj:j<s.oth.length)(hne:s.now≠j):(s.go c j (s.oth.getD j default)).tk={Vm.setCur s.tk c.abs with now:=j}:=by
 unfold RT.tk Vm.setCur Vm.setC;rw[RT.go_all];have e:(s.oth.set s.now c).set j (s.oth.getD j default)=s.oth.set s.now c:=by
  have:=set_getD (l:=s.oth.set s.now c) (j:=j) (by simpa using hj);rwa [getR_ne hne]at this
 rw[e];unfold RT.all;simp only[List.map_set,List.set_set]
end
section
variable{E:EnvR}{z z':RT E}
abbrev RT.noted(z:RT E)(x:Vm.Ev)(s:Option Addr×Nat):RT E:={z with lo:=s.1,lc:=s.2,log:=z.log ++[x]}
def FellR(n:Int)(z z':RT E):Prop:=(z.st=5∧z'=z)∨(z.st≠5∧∃s,z'=RT.noted {z with st:=5,tr:=n} (5,0,n) s)
def PutR(v:Int)(z z':RT E):Prop:=(400≤z.cur.ws.length∧FellR 4 z z')∨(z.cur.ws.length<400∧∃wo wc,z'=z.setW wo wc (z.cur.ws ++[v]))
def RT.took(z:RT E)(n:Nat)(s:Option Addr×Nat):RT E:=z.setW s.1 s.2 (z.cur.ws.take (z.cur.ws.length-n))
theorem RT.Wf.noted(h:z.Wf)(x:Vm.Ev)(s:Option Addr×Nat):(z.noted x s).Wf:=⟨h.now,h.few,h.env,h.st⟩
theorem FellR.gives{n:Int}(h:z.Wf)(hf:FellR n z z'):GivesR (Vm.trap E.W n z.two) z':=by
 unfold Vm.trap;rcases hf with⟨h5,rfl⟩|⟨h5,s,rfl⟩
 ·rw[if_pos (show z'.two.1.st=5 from h5)];exact⟨h,rfl⟩
 ·rw[if_neg (show¬z.two.1.st=5 from h5)];exact⟨⟨h.now,h.few,h.env, .inr (.inr rfl)⟩,rfl⟩
theorem FellR.log{n:Int}(hf:FellR n z z'):z'.log.length≤z.log.length+1:=by
 rcases hf with⟨h5,rfl⟩|⟨h5,s,rfl⟩
 ·exact Nat.le_succ _
 ·simp
theorem PutR.gives{v:Int}(h:z.Wf)(hw:z.cur.ws.length≤400)(hp:PutR v z z'):GivesR (Vm.push E.W v z.two) z':=by
 have e1:(Vm.cur z.two.1).ws=z.cur.ws:=h.ws;unfold Vm.push;rw[e1];rcases hp with⟨h4,hf⟩|⟨h4,wo,wc,rfl⟩
 ·rw[if_pos (by omega)];exact hf.gives h
 ·rw[if_neg (by omega)];refine⟨h.to_ _,?_⟩;show((z.setW wo wc (z.cur.ws ++[v])).tk,(E.abs z.e,z.log))=_;rw[h.setW_tk];rfl
theorem PutR.log{v:Int}(hp:PutR v z z'):z'.log.length≤z.log.length+1:=by
 rcases hp with⟨h4,hf⟩|⟨h4,wo,wc,rfl⟩
 ·exact hf.log
 ·exact Nat.le_succ _
theorem RT.Wf.took_tk(h:z.Wf)(n:Nat)(s:Option Addr×Nat):(z.took n s).tk=Vm.drop n z.tk:=by
 unfold RT.took;rw[h.setW_tk];unfold Vm.drop;rw[h.ws]
theorem RT.Wf.took(h:z.Wf)(n:Nat)(s:Option Addr×Nat):(z.took n s).Wf:=h.to_ _
theorem RT.took_len(z:RT E)(n:Nat)(s:Option Addr×Nat):(z.took n s).cur.ws.length=z.cur.ws.length-n:=by
 show(z.cur.ws.take _).length=_;rw[List.length_take];omega
def insR(m:ML)(z:RT E):ImgM.Ins:=(m.us.getD z.f.unit default).u.code.getD z.f.pc default
theorem unt_us(m:ML)(k:Nat):Vm.unt m.mdl k=(m.us.getD k default).u:=m.unit_at k
theorem RT.Wf.ins(h:z.Wf)(m:ML):Vm.insT m.mdl z.tk=insR m z:=by
 unfold Vm.insT insR;rw[h.topF,unt_us]
def RT.wst(i:ImgM.Ins)(z:RT E):Int:=if i.op=26∧E.V.full (E.abs z.e) i.a.toNat=true then 2 else if i.op=27∧E.V.empty (E.abs z.e) i.a.toNat=true then 3 else 1
def RT.wbx(i:ImgM.Ins)(z:RT E):Int:=if i.op=26∧E.V.full (E.abs z.e) i.a.toNat=true then i.a else if i.op=27∧E.V.empty (E.abs z.e) i.a.toNat=true then i.a else 0
def RT.look(z:RT E)(m:ML):RT E:=if z.st≤3 then{z with st:=z.wst (insR m z),bx:=z.wbx (insR m z)}else z
theorem RT.Wf.look(h:z.Wf)(m:ML):(z.look m).Wf:=by
 unfold RT.look
 split
 ·refine⟨h.now,h.few,h.env, .inl ?_⟩;show z.wst (insR m z)≤3;unfold RT.wst
  split
  ·omega
  split<;>omega
 ·exact h
theorem RT.Wf.look_two(h:z.Wf)(m:ML):(z.look m).two=Vm.look E.W m.mdl z.two:=by
 unfold RT.look Vm.look;have e:Vm.insT m.mdl z.two.1=insR m z:=h.ins m;have e2:z.two.1.st=z.st:=rfl;rw[e,e2]
 split
 ·unfold Vm.waits RT.wst RT.wbx;show(RT.tk _,(E.abs z.e,z.log))=if(insR m z).op=26∧E.V.full (E.abs z.e) (insR m z).a.toNat=true then _ else if(insR m z).op=27∧E.V.empty (E.abs z.e) (insR m z).a.toNat=true then _ else _
  by_cases h1:(insR m z).op=26∧E.V.full (E.abs z.e) (insR m z).a.toNat=true
  ·rw[if_pos h1,if_pos h1];simp only[if_pos h1];rfl
  ·rw[if_neg h1,if_neg h1];simp only[if_neg h1]
   by_cases h2:(insR m z).op=27∧E.V.empty (E.abs z.e) (insR m z).a.toNat=true
   ·rw[if_pos h2];simp only[if_pos h2];rfl
   ·rw[if_neg h2];simp only[if_neg h2];rfl
 ·rfl
end
attribute [local irreducible] Run Cod End OpT Still RunQ RunS RunT Fn PutOk
abbrev ck(cb mb:Nat)(m:ML):List Chunk:=[blk cb [.pointer (some ⟨mb,0,none⟩)] 108,blk mb [.slice m.bo m.bx.length m.bc, .slice m.uo m.us.length m.uc] 25]
abbrev ptr(b:Nat):Value:= .pointer (some ⟨b,0,none⟩)
theorem bool_eq{a b:Bool}(h:a=b):Value.bool a=Value.bool b:=by rw[h]
theorem int_eq{k:IntKind}{a b:Int}(h:a=b):Value.int k a=Value.int k b:=by rw[h]
theorem plain_is(t:Int):Fn Tryz.prog 62 #[.int .i64 t] [] [] (σ:=Unit) (fun _=>True) (fun _=> .bool (Ver.plain t)) (fun _=>[]):=by
 refine JE [.int .i64 t] Tryz.func62 Tryz.ntmps62 fun w S=>?_
 (refine Jn ?_)
 repeat' (first|refine Jo ?_|(refine JB ?_;intro b)|(refine JA ?_;intro ao cap)|refine goQ (k:=fun h=>?_) (k':=fun h=>?_)|fail)
 all_goals ((refine End.done1_ (()) (he:=by refine bool_eq ?_;(first|(simp[Ver.plain, *];done)|(simp[Ver.plain];omega)|(rw[Bool.eq_iff_iff];simp[Ver.plain];omega)|(simp[Ver.plain, *];intros;omega))) (hp:=?_));trivial)
theorem unit_is(cb mb:Nat)(m:ML)(i k:Int):Fn Tryz.prog 91 #[ptr cb, .int .i64 i, .int .i64 k] [md m] (ck cb mb m) (σ:=Unit) (fun _=>True) (fun _=> .bool (Ver.isUnit m.mdl i k)) (fun _=>ck cb mb m):=by
 refine JE [ptr cb, .int .i64 i, .int .i64 k] Tryz.func91 Tryz.ntmps91 fun w S=>?_
 (refine Jn ?_)
 repeat' (first|refine Jo ?_|(refine JB ?_;intro b)|(refine JA ?_;intro ao cap)|refine goQ (k:=fun h=>?_) (k':=fun h=>?_)|fail)
 all_goals ((refine End.done1_ (()) (he:=by refine bool_eq ?_;(first|(simp[Ver.isUnit,getD_u, *];done)|(simp[Ver.isUnit,getD_u];omega)|(rw[Bool.eq_iff_iff];simp[Ver.isUnit,getD_u];omega)|(simp[Ver.isUnit,getD_u, *];intros;omega))) (hp:=?_));trivial)
theorem handle_is(cb mb:Nat)(m:ML)(t:Int)(ht:ImgM.In64 t):Fn Tryz.prog 90 #[ptr cb, .int .i64 t] [md m] (ck cb mb m) (σ:=Unit) (fun _=>True) (fun _=> .bool (Ver.handle m.mdl t)) (fun _=>ck cb mb m):=by
 unfold ImgM.In64 at ht;refine JE [ptr cb, .int .i64 t] Tryz.func90 Tryz.ntmps90 fun w S=>?_
 (refine Jn ?_)
 repeat' (first|(refine Jc ?_;refine OpT.call0_ (spec:=unit_is cb mb m _ _) (k:=?_);intro s hs;(refine Jn ?_))|refine Jo ?_|(refine JB ?_;intro b)|(refine JA ?_;intro ao cap)|refine goQ (k:=fun h=>?_) (k':=fun h=>?_)|fail)
 all_goals ((refine End.done1_ (()) (he:=by refine bool_eq ?_;(first|(simp[Ver.handle, *];done)|(simp[Ver.handle];omega)|(rw[Bool.eq_iff_iff];simp[Ver.handle];omega)|(simp[Ver.handle, *];intros;omega))) (hp:=?_));trivial)
theorem head1_is(cb mb pb:Nat)(m:ML)(t:Int)(ht:ImgM.In64 t):Fn Tryz.prog 89 #[.int .i64 t,ptr pb] [md m] (blk pb [ptr cb] 106::ck cb mb m) (σ:=Unit) (fun _=>True) (fun _=> .bool (!Ver.plain t&& !Ver.handle m.mdl t)) (fun _=>blk pb [ptr cb] 106::ck cb mb m):=by
 refine JE [.int .i64 t,ptr pb] Tryz.func89 Tryz.ntmps89 fun w S=>?_
 (refine Jn ?_)
 repeat' (first|(refine Jc ?_;refine OpT.call0_ (spec:=plain_is _) (k:=?_);intro s hs;(refine Jn ?_))|(refine Jc ?_;refine OpT.call0_ (spec:=handle_is cb mb m _ ht) (k:=?_);intro s hs;(refine Jn ?_))|refine Jo ?_|(refine JB ?_;intro b)|(refine JA ?_;intro ao cap)|refine goQ (k:=fun h=>?_) (k':=fun h=>?_)|fail)
 all_goals ((refine End.done1_ (()) (he:=by refine bool_eq ?_;(first|(simp[*];done)|(simp[];omega)|(rw[Bool.eq_iff_iff];simp[];omega)|(simp[*];intros;omega))) (hp:=?_));trivial)
end Go.Proofs.YtjehflelkpacfaaGreat.Vw
