/- Texts, one behind another. -/
import Derived.Test.YtdeiocppghhfdaaGreatZfad
set_option linter.unusedVariables false
set_option linter.unusedSimpArgs false
set_option maxRecDepth 100000
set_option maxHeartbeats 40000000
namespace Go.Proofs.YtdeiocppghhfdaaGreat
open Go.RowKit
theorem aDz (v lo hi:Int) (w:World):Calls Tryz.prog 134 #[.int .i64 v,.int .i64 lo,.int .i64 hi] w fun e w'=>e = .returned (.bool (inB v lo hi))∧w=w':=aDy v lo hi w
theorem nN {a b:Int} (h:a=b):Ending.returned (.int .i64 a) = .returned (.int .i64 b):=by rw[h]
theorem zI (b:Int):inB b 1 4294967295=(!(decide (b<1) || decide (4294967295<b))):=by unfold inB;rw[Bool.eq_iff_iff];simp
theorem uU (c:CfgV) (w:World):Calls Tryz.prog 98 #[c.v] w fun e w'=>e = .returned (.int .i64 (cfgE c))∧Below w.heap.size w w':=by
 obtain⟨a,b,c',d,e,f,g,s⟩:=c
 unfold CfgV.v
 go_enter Tryz.func98,Tryz.ntmps98
 go_wp2_with (first | (go_at_call 134;refine (aDz _ _ _ _).mono ?_;rintro e w' ⟨rfl,rfl⟩) | (go_at_call 135;refine (kI _ _).mono ?_;rintro e w' ⟨rfl,rfl⟩))
 all_goals (go_ret;refine⟨nN ?_,pE _ _⟩)
 all_goals (first | (simp[cfgE,cfgB, *];done) | (simp only[cfgE,cfgB,zI, *];simp_all;done) | (simp only[cfgE,cfgB,zI, *];simp_all;omega) | (rename_i h;rcases h with (h | h) | h<;>first | omega | (simp[cfgE,cfgB, *];done) | (simp only[cfgE,cfgB,zI, *];simp_all;done)))
theorem wW (c:CfgV) (w:World):Calls Tryz.prog 175 #[c.v] w fun e w'=>e = .returned (.int .i64 (cfgE c))∧Below w.heap.size w w':=by
 obtain⟨a,b,c',d,e,f,g,s⟩:=c
 unfold CfgV.v
 go_enter Tryz.func175,Tryz.ntmps175
 go_wp2_with (go_at_call 218;refine (qC _ _ ?hs).mono ?_;(rotate_left;(rintro e w' ⟨rfl,hB⟩)))
 all_goals try (case hs=>unfold maxLen;omega)
 all_goals (go_ret;refine⟨nN ?_,by first | exact pE _ _ | exact (pE _ _).trans (hB.mono (by simp))⟩)
 all_goals (unfold cfgE cfgB inB;simp only[Bool.and_eq_true,decide_eq_true_eq];(repeat' split)<;>first | omega | simp_all)
structure OpV where
 kind:Int
 slot:Int
 at_:Int
 n:Int
 id:Int
 grav:Int
 text:ByteArray
deriving DecidableEq,Inhabited
def OpV.v (o:OpV):Value := .agg #[.int .u8 o.kind,.int .i64 o.slot,.int .i64 o.at_,.int .i64 o.n,.int .u32 o.id,.int .u8 o.grav,.string o.text]
end Go.Proofs.YtdeiocppghhfdaaGreat
