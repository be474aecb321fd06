/-
  MESSAGES: MsK, MsL, MsM, MsN, MsO, in one text (merged by wip/merge.py).
-/
import Derived.Test.YtikimmhkfjaijaaGB
import Derived.MapKept
namespace Go.Proofs.Ytikimmhkfjaijaa
open Go.RowKit Reg Go.ChangeShapes

def p_K (m : Ms) (v : Int) : Ms := { m with K := v }
theorem p_K_K (m : Ms) (v : Int) : (p_K m v).K = v := rfl
theorem p_K_T (m : Ms) (v : Int) : (p_K m v).T = m.T := rfl
theorem p_K_P (m : Ms) (v : Int) : (p_K m v).P = m.P := rfl
theorem p_K_PT (m : Ms) (v : Int) : (p_K m v).PT = m.PT := rfl
theorem p_K_es (m : Ms) (v : Int) : (p_K m v).es = m.es := rfl
theorem p_K_C (m : Ms) (v : Int) : (p_K m v).C = m.C := rfl
theorem p_K_Y (m : Ms) (v : Int) : (p_K m v).Y = m.Y := rfl
theorem p_K_M (m : Ms) (v : Int) : (p_K m v).M = m.M := rfl
theorem p_K_S (m : Ms) (v : Int) : (p_K m v).S = m.S := rfl
theorem p_K_l (m : Ms) (v : Int) : (p_K m v).l = m.l := rfl
theorem p_K_n (m : Ms) (v : Int) : (p_K m v).n = m.n := rfl
theorem p_K_la (m : Ms) (v : Int) : (p_K m v).la = m.la := rfl
theorem p_K_ta (m : Ms) (v : Int) : (p_K m v).ta = m.ta := rfl
theorem p_K_N (m : Ms) (v : Int) : (p_K m v).N = m.N := rfl
theorem p_K_p (m : Ms) (v : Int) : (p_K m v).p = m.p := rfl
def p_T (m : Ms) (v : Int) : Ms := { m with T := v }
theorem p_T_K (m : Ms) (v : Int) : (p_T m v).K = m.K := rfl
theorem p_T_T (m : Ms) (v : Int) : (p_T m v).T = v := rfl
theorem p_T_P (m : Ms) (v : Int) : (p_T m v).P = m.P := rfl
theorem p_T_PT (m : Ms) (v : Int) : (p_T m v).PT = m.PT := rfl
theorem p_T_es (m : Ms) (v : Int) : (p_T m v).es = m.es := rfl
theorem p_T_C (m : Ms) (v : Int) : (p_T m v).C = m.C := rfl
theorem p_T_Y (m : Ms) (v : Int) : (p_T m v).Y = m.Y := rfl
theorem p_T_M (m : Ms) (v : Int) : (p_T m v).M = m.M := rfl
theorem p_T_S (m : Ms) (v : Int) : (p_T m v).S = m.S := rfl
theorem p_T_l (m : Ms) (v : Int) : (p_T m v).l = m.l := rfl
theorem p_T_n (m : Ms) (v : Int) : (p_T m v).n = m.n := rfl
theorem p_T_la (m : Ms) (v : Int) : (p_T m v).la = m.la := rfl
theorem p_T_ta (m : Ms) (v : Int) : (p_T m v).ta = m.ta := rfl
theorem p_T_N (m : Ms) (v : Int) : (p_T m v).N = m.N := rfl
theorem p_T_p (m : Ms) (v : Int) : (p_T m v).p = m.p := rfl
def p_P (m : Ms) (v : Int) : Ms := { m with P := v }
theorem p_P_K (m : Ms) (v : Int) : (p_P m v).K = m.K := rfl
theorem p_P_T (m : Ms) (v : Int) : (p_P m v).T = m.T := rfl
theorem p_P_P (m : Ms) (v : Int) : (p_P m v).P = v := rfl
theorem p_P_PT (m : Ms) (v : Int) : (p_P m v).PT = m.PT := rfl
theorem p_P_es (m : Ms) (v : Int) : (p_P m v).es = m.es := rfl
theorem p_P_C (m : Ms) (v : Int) : (p_P m v).C = m.C := rfl
theorem p_P_Y (m : Ms) (v : Int) : (p_P m v).Y = m.Y := rfl
theorem p_P_M (m : Ms) (v : Int) : (p_P m v).M = m.M := rfl
theorem p_P_S (m : Ms) (v : Int) : (p_P m v).S = m.S := rfl
theorem p_P_l (m : Ms) (v : Int) : (p_P m v).l = m.l := rfl
theorem p_P_n (m : Ms) (v : Int) : (p_P m v).n = m.n := rfl
theorem p_P_la (m : Ms) (v : Int) : (p_P m v).la = m.la := rfl
theorem p_P_ta (m : Ms) (v : Int) : (p_P m v).ta = m.ta := rfl
theorem p_P_N (m : Ms) (v : Int) : (p_P m v).N = m.N := rfl
theorem p_P_p (m : Ms) (v : Int) : (p_P m v).p = m.p := rfl
def p_PT (m : Ms) (v : Int) : Ms := { m with PT := v }
theorem p_PT_K (m : Ms) (v : Int) : (p_PT m v).K = m.K := rfl
theorem p_PT_T (m : Ms) (v : Int) : (p_PT m v).T = m.T := rfl
theorem p_PT_P (m : Ms) (v : Int) : (p_PT m v).P = m.P := rfl
theorem p_PT_PT (m : Ms) (v : Int) : (p_PT m v).PT = v := rfl
theorem p_PT_es (m : Ms) (v : Int) : (p_PT m v).es = m.es := rfl
theorem p_PT_C (m : Ms) (v : Int) : (p_PT m v).C = m.C := rfl
theorem p_PT_Y (m : Ms) (v : Int) : (p_PT m v).Y = m.Y := rfl
theorem p_PT_M (m : Ms) (v : Int) : (p_PT m v).M = m.M := rfl
theorem p_PT_S (m : Ms) (v : Int) : (p_PT m v).S = m.S := rfl
theorem p_PT_l (m : Ms) (v : Int) : (p_PT m v).l = m.l := rfl
theorem p_PT_n (m : Ms) (v : Int) : (p_PT m v).n = m.n := rfl
theorem p_PT_la (m : Ms) (v : Int) : (p_PT m v).la = m.la := rfl
theorem p_PT_ta (m : Ms) (v : Int) : (p_PT m v).ta = m.ta := rfl
theorem p_PT_N (m : Ms) (v : Int) : (p_PT m v).N = m.N := rfl
theorem p_PT_p (m : Ms) (v : Int) : (p_PT m v).p = m.p := rfl
def p_es (m : Ms) (v : List En) : Ms := { m with es := v }
theorem p_es_K (m : Ms) (v : List En) : (p_es m v).K = m.K := rfl
theorem p_es_T (m : Ms) (v : List En) : (p_es m v).T = m.T := rfl
theorem p_es_P (m : Ms) (v : List En) : (p_es m v).P = m.P := rfl
theorem p_es_PT (m : Ms) (v : List En) : (p_es m v).PT = m.PT := rfl
theorem p_es_es (m : Ms) (v : List En) : (p_es m v).es = v := rfl
theorem p_es_C (m : Ms) (v : List En) : (p_es m v).C = m.C := rfl
theorem p_es_Y (m : Ms) (v : List En) : (p_es m v).Y = m.Y := rfl
theorem p_es_M (m : Ms) (v : List En) : (p_es m v).M = m.M := rfl
theorem p_es_S (m : Ms) (v : List En) : (p_es m v).S = m.S := rfl
theorem p_es_l (m : Ms) (v : List En) : (p_es m v).l = m.l := rfl
theorem p_es_n (m : Ms) (v : List En) : (p_es m v).n = m.n := rfl
theorem p_es_la (m : Ms) (v : List En) : (p_es m v).la = m.la := rfl
theorem p_es_ta (m : Ms) (v : List En) : (p_es m v).ta = m.ta := rfl
theorem p_es_N (m : Ms) (v : List En) : (p_es m v).N = m.N := rfl
theorem p_es_p (m : Ms) (v : List En) : (p_es m v).p = m.p := rfl
def p_C (m : Ms) (v : Int) : Ms := { m with C := v }
theorem p_C_K (m : Ms) (v : Int) : (p_C m v).K = m.K := rfl
theorem p_C_T (m : Ms) (v : Int) : (p_C m v).T = m.T := rfl
theorem p_C_P (m : Ms) (v : Int) : (p_C m v).P = m.P := rfl
theorem p_C_PT (m : Ms) (v : Int) : (p_C m v).PT = m.PT := rfl
theorem p_C_es (m : Ms) (v : Int) : (p_C m v).es = m.es := rfl
theorem p_C_C (m : Ms) (v : Int) : (p_C m v).C = v := rfl
theorem p_C_Y (m : Ms) (v : Int) : (p_C m v).Y = m.Y := rfl
theorem p_C_M (m : Ms) (v : Int) : (p_C m v).M = m.M := rfl
theorem p_C_S (m : Ms) (v : Int) : (p_C m v).S = m.S := rfl
theorem p_C_l (m : Ms) (v : Int) : (p_C m v).l = m.l := rfl
theorem p_C_n (m : Ms) (v : Int) : (p_C m v).n = m.n := rfl
theorem p_C_la (m : Ms) (v : Int) : (p_C m v).la = m.la := rfl
theorem p_C_ta (m : Ms) (v : Int) : (p_C m v).ta = m.ta := rfl
theorem p_C_N (m : Ms) (v : Int) : (p_C m v).N = m.N := rfl
theorem p_C_p (m : Ms) (v : Int) : (p_C m v).p = m.p := rfl
def p_Y (m : Ms) (v : Bool) : Ms := { m with Y := v }
theorem p_Y_K (m : Ms) (v : Bool) : (p_Y m v).K = m.K := rfl
theorem p_Y_T (m : Ms) (v : Bool) : (p_Y m v).T = m.T := rfl
theorem p_Y_P (m : Ms) (v : Bool) : (p_Y m v).P = m.P := rfl
theorem p_Y_PT (m : Ms) (v : Bool) : (p_Y m v).PT = m.PT := rfl
theorem p_Y_es (m : Ms) (v : Bool) : (p_Y m v).es = m.es := rfl
theorem p_Y_C (m : Ms) (v : Bool) : (p_Y m v).C = m.C := rfl
theorem p_Y_Y (m : Ms) (v : Bool) : (p_Y m v).Y = v := rfl
theorem p_Y_M (m : Ms) (v : Bool) : (p_Y m v).M = m.M := rfl
theorem p_Y_S (m : Ms) (v : Bool) : (p_Y m v).S = m.S := rfl
theorem p_Y_l (m : Ms) (v : Bool) : (p_Y m v).l = m.l := rfl
theorem p_Y_n (m : Ms) (v : Bool) : (p_Y m v).n = m.n := rfl
theorem p_Y_la (m : Ms) (v : Bool) : (p_Y m v).la = m.la := rfl
theorem p_Y_ta (m : Ms) (v : Bool) : (p_Y m v).ta = m.ta := rfl
theorem p_Y_N (m : Ms) (v : Bool) : (p_Y m v).N = m.N := rfl
theorem p_Y_p (m : Ms) (v : Bool) : (p_Y m v).p = m.p := rfl
def p_M (m : Ms) (v : Int) : Ms := { m with M := v }
theorem p_M_K (m : Ms) (v : Int) : (p_M m v).K = m.K := rfl
theorem p_M_T (m : Ms) (v : Int) : (p_M m v).T = m.T := rfl
theorem p_M_P (m : Ms) (v : Int) : (p_M m v).P = m.P := rfl
theorem p_M_PT (m : Ms) (v : Int) : (p_M m v).PT = m.PT := rfl
theorem p_M_es (m : Ms) (v : Int) : (p_M m v).es = m.es := rfl
theorem p_M_C (m : Ms) (v : Int) : (p_M m v).C = m.C := rfl
theorem p_M_Y (m : Ms) (v : Int) : (p_M m v).Y = m.Y := rfl
theorem p_M_M (m : Ms) (v : Int) : (p_M m v).M = v := rfl
theorem p_M_S (m : Ms) (v : Int) : (p_M m v).S = m.S := rfl
theorem p_M_l (m : Ms) (v : Int) : (p_M m v).l = m.l := rfl
theorem p_M_n (m : Ms) (v : Int) : (p_M m v).n = m.n := rfl
theorem p_M_la (m : Ms) (v : Int) : (p_M m v).la = m.la := rfl
theorem p_M_ta (m : Ms) (v : Int) : (p_M m v).ta = m.ta := rfl
theorem p_M_N (m : Ms) (v : Int) : (p_M m v).N = m.N := rfl
theorem p_M_p (m : Ms) (v : Int) : (p_M m v).p = m.p := rfl
def p_S (m : Ms) (v : Int) : Ms := { m with S := v }
theorem p_S_K (m : Ms) (v : Int) : (p_S m v).K = m.K := rfl
theorem p_S_T (m : Ms) (v : Int) : (p_S m v).T = m.T := rfl
theorem p_S_P (m : Ms) (v : Int) : (p_S m v).P = m.P := rfl
theorem p_S_PT (m : Ms) (v : Int) : (p_S m v).PT = m.PT := rfl
theorem p_S_es (m : Ms) (v : Int) : (p_S m v).es = m.es := rfl
theorem p_S_C (m : Ms) (v : Int) : (p_S m v).C = m.C := rfl
theorem p_S_Y (m : Ms) (v : Int) : (p_S m v).Y = m.Y := rfl
theorem p_S_M (m : Ms) (v : Int) : (p_S m v).M = m.M := rfl
theorem p_S_S (m : Ms) (v : Int) : (p_S m v).S = v := rfl
theorem p_S_l (m : Ms) (v : Int) : (p_S m v).l = m.l := rfl
theorem p_S_n (m : Ms) (v : Int) : (p_S m v).n = m.n := rfl
theorem p_S_la (m : Ms) (v : Int) : (p_S m v).la = m.la := rfl
theorem p_S_ta (m : Ms) (v : Int) : (p_S m v).ta = m.ta := rfl
theorem p_S_N (m : Ms) (v : Int) : (p_S m v).N = m.N := rfl
theorem p_S_p (m : Ms) (v : Int) : (p_S m v).p = m.p := rfl
def p_l (m : Ms) (v : Ln) : Ms := { m with l := v }
theorem p_l_K (m : Ms) (v : Ln) : (p_l m v).K = m.K := rfl
theorem p_l_T (m : Ms) (v : Ln) : (p_l m v).T = m.T := rfl
theorem p_l_P (m : Ms) (v : Ln) : (p_l m v).P = m.P := rfl
theorem p_l_PT (m : Ms) (v : Ln) : (p_l m v).PT = m.PT := rfl
theorem p_l_es (m : Ms) (v : Ln) : (p_l m v).es = m.es := rfl
theorem p_l_C (m : Ms) (v : Ln) : (p_l m v).C = m.C := rfl
theorem p_l_Y (m : Ms) (v : Ln) : (p_l m v).Y = m.Y := rfl
theorem p_l_M (m : Ms) (v : Ln) : (p_l m v).M = m.M := rfl
theorem p_l_S (m : Ms) (v : Ln) : (p_l m v).S = m.S := rfl
theorem p_l_l (m : Ms) (v : Ln) : (p_l m v).l = v := rfl
theorem p_l_n (m : Ms) (v : Ln) : (p_l m v).n = m.n := rfl
theorem p_l_la (m : Ms) (v : Ln) : (p_l m v).la = m.la := rfl
theorem p_l_ta (m : Ms) (v : Ln) : (p_l m v).ta = m.ta := rfl
theorem p_l_N (m : Ms) (v : Ln) : (p_l m v).N = m.N := rfl
theorem p_l_p (m : Ms) (v : Ln) : (p_l m v).p = m.p := rfl
def p_n (m : Ms) (v : Int) : Ms := { m with n := v }
theorem p_n_K (m : Ms) (v : Int) : (p_n m v).K = m.K := rfl
theorem p_n_T (m : Ms) (v : Int) : (p_n m v).T = m.T := rfl
theorem p_n_P (m : Ms) (v : Int) : (p_n m v).P = m.P := rfl
theorem p_n_PT (m : Ms) (v : Int) : (p_n m v).PT = m.PT := rfl
theorem p_n_es (m : Ms) (v : Int) : (p_n m v).es = m.es := rfl
theorem p_n_C (m : Ms) (v : Int) : (p_n m v).C = m.C := rfl
theorem p_n_Y (m : Ms) (v : Int) : (p_n m v).Y = m.Y := rfl
theorem p_n_M (m : Ms) (v : Int) : (p_n m v).M = m.M := rfl
theorem p_n_S (m : Ms) (v : Int) : (p_n m v).S = m.S := rfl
theorem p_n_l (m : Ms) (v : Int) : (p_n m v).l = m.l := rfl
theorem p_n_n (m : Ms) (v : Int) : (p_n m v).n = v := rfl
theorem p_n_la (m : Ms) (v : Int) : (p_n m v).la = m.la := rfl
theorem p_n_ta (m : Ms) (v : Int) : (p_n m v).ta = m.ta := rfl
theorem p_n_N (m : Ms) (v : Int) : (p_n m v).N = m.N := rfl
theorem p_n_p (m : Ms) (v : Int) : (p_n m v).p = m.p := rfl
def p_la (m : Ms) (v : Gd) : Ms := { m with la := v }
theorem p_la_K (m : Ms) (v : Gd) : (p_la m v).K = m.K := rfl
theorem p_la_T (m : Ms) (v : Gd) : (p_la m v).T = m.T := rfl
theorem p_la_P (m : Ms) (v : Gd) : (p_la m v).P = m.P := rfl
theorem p_la_PT (m : Ms) (v : Gd) : (p_la m v).PT = m.PT := rfl
theorem p_la_es (m : Ms) (v : Gd) : (p_la m v).es = m.es := rfl
theorem p_la_C (m : Ms) (v : Gd) : (p_la m v).C = m.C := rfl
theorem p_la_Y (m : Ms) (v : Gd) : (p_la m v).Y = m.Y := rfl
theorem p_la_M (m : Ms) (v : Gd) : (p_la m v).M = m.M := rfl
theorem p_la_S (m : Ms) (v : Gd) : (p_la m v).S = m.S := rfl
theorem p_la_l (m : Ms) (v : Gd) : (p_la m v).l = m.l := rfl
theorem p_la_n (m : Ms) (v : Gd) : (p_la m v).n = m.n := rfl
theorem p_la_la (m : Ms) (v : Gd) : (p_la m v).la = v := rfl
theorem p_la_ta (m : Ms) (v : Gd) : (p_la m v).ta = m.ta := rfl
theorem p_la_N (m : Ms) (v : Gd) : (p_la m v).N = m.N := rfl
theorem p_la_p (m : Ms) (v : Gd) : (p_la m v).p = m.p := rfl
def p_ta (m : Ms) (v : Gd) : Ms := { m with ta := v }
theorem p_ta_K (m : Ms) (v : Gd) : (p_ta m v).K = m.K := rfl
theorem p_ta_T (m : Ms) (v : Gd) : (p_ta m v).T = m.T := rfl
theorem p_ta_P (m : Ms) (v : Gd) : (p_ta m v).P = m.P := rfl
theorem p_ta_PT (m : Ms) (v : Gd) : (p_ta m v).PT = m.PT := rfl
theorem p_ta_es (m : Ms) (v : Gd) : (p_ta m v).es = m.es := rfl
theorem p_ta_C (m : Ms) (v : Gd) : (p_ta m v).C = m.C := rfl
theorem p_ta_Y (m : Ms) (v : Gd) : (p_ta m v).Y = m.Y := rfl
theorem p_ta_M (m : Ms) (v : Gd) : (p_ta m v).M = m.M := rfl
theorem p_ta_S (m : Ms) (v : Gd) : (p_ta m v).S = m.S := rfl
theorem p_ta_l (m : Ms) (v : Gd) : (p_ta m v).l = m.l := rfl
theorem p_ta_n (m : Ms) (v : Gd) : (p_ta m v).n = m.n := rfl
theorem p_ta_la (m : Ms) (v : Gd) : (p_ta m v).la = m.la := rfl
theorem p_ta_ta (m : Ms) (v : Gd) : (p_ta m v).ta = v := rfl
theorem p_ta_N (m : Ms) (v : Gd) : (p_ta m v).N = m.N := rfl
theorem p_ta_p (m : Ms) (v : Gd) : (p_ta m v).p = m.p := rfl
def p_N (m : Ms) (v : Int) : Ms := { m with N := v }
theorem p_N_K (m : Ms) (v : Int) : (p_N m v).K = m.K := rfl
theorem p_N_T (m : Ms) (v : Int) : (p_N m v).T = m.T := rfl
theorem p_N_P (m : Ms) (v : Int) : (p_N m v).P = m.P := rfl
theorem p_N_PT (m : Ms) (v : Int) : (p_N m v).PT = m.PT := rfl
theorem p_N_es (m : Ms) (v : Int) : (p_N m v).es = m.es := rfl
theorem p_N_C (m : Ms) (v : Int) : (p_N m v).C = m.C := rfl
theorem p_N_Y (m : Ms) (v : Int) : (p_N m v).Y = m.Y := rfl
theorem p_N_M (m : Ms) (v : Int) : (p_N m v).M = m.M := rfl
theorem p_N_S (m : Ms) (v : Int) : (p_N m v).S = m.S := rfl
theorem p_N_l (m : Ms) (v : Int) : (p_N m v).l = m.l := rfl
theorem p_N_n (m : Ms) (v : Int) : (p_N m v).n = m.n := rfl
theorem p_N_la (m : Ms) (v : Int) : (p_N m v).la = m.la := rfl
theorem p_N_ta (m : Ms) (v : Int) : (p_N m v).ta = m.ta := rfl
theorem p_N_N (m : Ms) (v : Int) : (p_N m v).N = v := rfl
theorem p_N_p (m : Ms) (v : Int) : (p_N m v).p = m.p := rfl
def p_p (m : Ms) (v : Prt) : Ms := { m with p := v }
theorem p_p_K (m : Ms) (v : Prt) : (p_p m v).K = m.K := rfl
theorem p_p_T (m : Ms) (v : Prt) : (p_p m v).T = m.T := rfl
theorem p_p_P (m : Ms) (v : Prt) : (p_p m v).P = m.P := rfl
theorem p_p_PT (m : Ms) (v : Prt) : (p_p m v).PT = m.PT := rfl
theorem p_p_es (m : Ms) (v : Prt) : (p_p m v).es = m.es := rfl
theorem p_p_C (m : Ms) (v : Prt) : (p_p m v).C = m.C := rfl
theorem p_p_Y (m : Ms) (v : Prt) : (p_p m v).Y = m.Y := rfl
theorem p_p_M (m : Ms) (v : Prt) : (p_p m v).M = m.M := rfl
theorem p_p_S (m : Ms) (v : Prt) : (p_p m v).S = m.S := rfl
theorem p_p_l (m : Ms) (v : Prt) : (p_p m v).l = m.l := rfl
theorem p_p_n (m : Ms) (v : Prt) : (p_p m v).n = m.n := rfl
theorem p_p_la (m : Ms) (v : Prt) : (p_p m v).la = m.la := rfl
theorem p_p_ta (m : Ms) (v : Prt) : (p_p m v).ta = m.ta := rfl
theorem p_p_N (m : Ms) (v : Prt) : (p_p m v).N = m.N := rfl
theorem p_p_p (m : Ms) (v : Prt) : (p_p m v).p = v := rfl
def iT (q : Sf × Ms) : Sf × Ms := ((numS q.1 q.2.T).1, p_T q.2 (numS q.1 q.2.T).2)
theorem iT_1 (q : Sf × Ms) : (iT q).1 = (numS q.1 q.2.T).1 := rfl
theorem iT_2 (q : Sf × Ms) : (iT q).2 = p_T q.2 (numS q.1 q.2.T).2 := rfl
def iP (q : Sf × Ms) : Sf × Ms := ((intF q.1 q.2.P).1, p_P q.2 (intF q.1 q.2.P).2)
theorem iP_1 (q : Sf × Ms) : (iP q).1 = (intF q.1 q.2.P).1 := rfl
theorem iP_2 (q : Sf × Ms) : (iP q).2 = p_P q.2 (intF q.1 q.2.P).2 := rfl
def iPT (q : Sf × Ms) : Sf × Ms := ((numS q.1 q.2.PT).1, p_PT q.2 (numS q.1 q.2.PT).2)
theorem iPT_1 (q : Sf × Ms) : (iPT q).1 = (numS q.1 q.2.PT).1 := rfl
theorem iPT_2 (q : Sf × Ms) : (iPT q).2 = p_PT q.2 (numS q.1 q.2.PT).2 := rfl
def iY (q : Sf × Ms) : Sf × Ms := ((yesF q.1 q.2.Y).1, p_Y q.2 (yesF q.1 q.2.Y).2)
theorem iY_1 (q : Sf × Ms) : (iY q).1 = (yesF q.1 q.2.Y).1 := rfl
theorem iY_2 (q : Sf × Ms) : (iY q).2 = p_Y q.2 (yesF q.1 q.2.Y).2 := rfl
def iC (q : Sf × Ms) : Sf × Ms := ((intF q.1 q.2.C).1, p_C q.2 (intF q.1 q.2.C).2)
theorem iC_1 (q : Sf × Ms) : (iC q).1 = (intF q.1 q.2.C).1 := rfl
theorem iC_2 (q : Sf × Ms) : (iC q).2 = p_C q.2 (intF q.1 q.2.C).2 := rfl
def iM (q : Sf × Ms) : Sf × Ms := ((intF q.1 q.2.M).1, p_M q.2 (intF q.1 q.2.M).2)
theorem iM_1 (q : Sf × Ms) : (iM q).1 = (intF q.1 q.2.M).1 := rfl
theorem iM_2 (q : Sf × Ms) : (iM q).2 = p_M q.2 (intF q.1 q.2.M).2 := rfl
def iL (q : Sf × Ms) : Sf × Ms := ((intF q.1 q.2.n).1, p_n q.2 (intF q.1 q.2.n).2)
theorem iL_1 (q : Sf × Ms) : (iL q).1 = (intF q.1 q.2.n).1 := rfl
theorem iL_2 (q : Sf × Ms) : (iL q).2 = p_n q.2 (intF q.1 q.2.n).2 := rfl
def iN (q : Sf × Ms) : Sf × Ms := ((intF q.1 q.2.N).1, p_N q.2 (intF q.1 q.2.N).2)
theorem iN_1 (q : Sf × Ms) : (iN q).1 = (intF q.1 q.2.N).1 := rfl
theorem iN_2 (q : Sf × Ms) : (iN q).2 = p_N q.2 (intF q.1 q.2.N).2 := rfl
def iS (q : Sf × Ms) : Sf × Ms := ((stF q.1 q.2.S).1, p_S q.2 (stF q.1 q.2.S).2)
theorem iS_1 (q : Sf × Ms) : (iS q).1 = (stF q.1 q.2.S).1 := rfl
theorem iS_2 (q : Sf × Ms) : (iS q).2 = p_S q.2 (stF q.1 q.2.S).2 := rfl
def iLa (q : Sf × Ms) : Sf × Ms := ((gdS q.1 q.2.la).1, p_la q.2 (gdS q.1 q.2.la).2)
theorem iLa_1 (q : Sf × Ms) : (iLa q).1 = (gdS q.1 q.2.la).1 := rfl
theorem iLa_2 (q : Sf × Ms) : (iLa q).2 = p_la q.2 (gdS q.1 q.2.la).2 := rfl
def iTa (q : Sf × Ms) : Sf × Ms := ((gdS q.1 q.2.ta).1, p_ta q.2 (gdS q.1 q.2.ta).2)
theorem iTa_1 (q : Sf × Ms) : (iTa q).1 = (gdS q.1 q.2.ta).1 := rfl
theorem iTa_2 (q : Sf × Ms) : (iTa q).2 = p_ta q.2 (gdS q.1 q.2.ta).2 := rfl
theorem entF_2 (S : Sf) (m : Ms) : (entF S m).2 = p_es m (eLp (intF S (m.es.length : Nat)).1 (szE S m.es) (szE S m.es).length).2 := rfl
theorem lineF_2 (S : Sf) (m : Ms) : ∃ l, (lineF S m).2 = p_l m l := ⟨_, rfl⟩
def askF (S : Sf) (m : Ms) : Sf × Ms := iPT (iP (iT (S, m)))
def voteF (S : Sf) (m : Ms) : Sf × Ms := iY (iT (S, m))
def appendsF (S : Sf) (m : Ms) : Sf × Ms := iS (iC (entF (askF S m).1 (askF S m).2))
def appendedF (S : Sf) (m : Ms) : Sf × Ms := iS (iM (voteF S m))
def pullF (S : Sf) (m : Ms) : Sf × Ms := iN (iTa (iLa (iL (lineF S m))))
def partedF (S : Sf) (m : Ms) : Sf × Ms := partF (lineF S m).1 (lineF S m).2
def allF (S : Sf) (m : Ms) : Sf × Ms :=
  if m.K = 1 then askF S m else if m.K = 2 then voteF S m else if m.K = 3 then appendsF S m else if m.K = 4 then appendedF S m
  else if m.K = 5 then pullF S m else if m.K = 6 then partedF S m else if m.K = 7 then lineF S m else (⟨S.m, true⟩, m)
theorem askF_es (S : Sf) (m : Ms) : (askF S m).2.es = m.es := by simp only [askF, iPT_2, iP_2, iT_2, p_PT_es, p_P_es, p_T_es]
theorem voteF_es (S : Sf) (m : Ms) : (voteF S m).2.es = m.es := by simp only [voteF, iY_2, iT_2, p_Y_es, p_T_es]
theorem askF_C (S : Sf) (m : Ms) : (askF S m).2.C = m.C := by simp only [askF, iPT_2, iP_2, iT_2, p_PT_C, p_P_C, p_T_C]
theorem voteF_C (S : Sf) (m : Ms) : (voteF S m).2.C = m.C := by simp only [voteF, iY_2, iT_2, p_Y_C, p_T_C]
theorem askF_M (S : Sf) (m : Ms) : (askF S m).2.M = m.M := by simp only [askF, iPT_2, iP_2, iT_2, p_PT_M, p_P_M, p_T_M]
theorem voteF_M (S : Sf) (m : Ms) : (voteF S m).2.M = m.M := by simp only [voteF, iY_2, iT_2, p_Y_M, p_T_M]
theorem askF_S (S : Sf) (m : Ms) : (askF S m).2.S = m.S := by simp only [askF, iPT_2, iP_2, iT_2, p_PT_S, p_P_S, p_T_S]
theorem voteF_S (S : Sf) (m : Ms) : (voteF S m).2.S = m.S := by simp only [voteF, iY_2, iT_2, p_Y_S, p_T_S]
theorem askF_l (S : Sf) (m : Ms) : (askF S m).2.l = m.l := by simp only [askF, iPT_2, iP_2, iT_2, p_PT_l, p_P_l, p_T_l]
theorem voteF_l (S : Sf) (m : Ms) : (voteF S m).2.l = m.l := by simp only [voteF, iY_2, iT_2, p_Y_l, p_T_l]
theorem askF_p (S : Sf) (m : Ms) : (askF S m).2.p = m.p := by simp only [askF, iPT_2, iP_2, iT_2, p_PT_p, p_P_p, p_T_p]
theorem voteF_p (S : Sf) (m : Ms) : (voteF S m).2.p = m.p := by simp only [voteF, iY_2, iT_2, p_Y_p, p_T_p]
theorem askF_n (S : Sf) (m : Ms) : (askF S m).2.n = m.n := by simp only [askF, iPT_2, iP_2, iT_2, p_PT_n, p_P_n, p_T_n]
theorem voteF_n (S : Sf) (m : Ms) : (voteF S m).2.n = m.n := by simp only [voteF, iY_2, iT_2, p_Y_n, p_T_n]
theorem askF_la (S : Sf) (m : Ms) : (askF S m).2.la = m.la := by simp only [askF, iPT_2, iP_2, iT_2, p_PT_la, p_P_la, p_T_la]
theorem voteF_la (S : Sf) (m : Ms) : (voteF S m).2.la = m.la := by simp only [voteF, iY_2, iT_2, p_Y_la, p_T_la]
theorem askF_ta (S : Sf) (m : Ms) : (askF S m).2.ta = m.ta := by simp only [askF, iPT_2, iP_2, iT_2, p_PT_ta, p_P_ta, p_T_ta]
theorem voteF_ta (S : Sf) (m : Ms) : (voteF S m).2.ta = m.ta := by simp only [voteF, iY_2, iT_2, p_Y_ta, p_T_ta]
theorem askF_N (S : Sf) (m : Ms) : (askF S m).2.N = m.N := by simp only [askF, iPT_2, iP_2, iT_2, p_PT_N, p_P_N, p_T_N]
theorem voteF_N (S : Sf) (m : Ms) : (voteF S m).2.N = m.N := by simp only [voteF, iY_2, iT_2, p_Y_N, p_T_N]
theorem lineF_n (S : Sf) (m : Ms) : (lineF S m).2.n = m.n := by obtain ⟨l, h⟩ := lineF_2 S m; rw [h, p_l_n]
theorem lineF_la (S : Sf) (m : Ms) : (lineF S m).2.la = m.la := by obtain ⟨l, h⟩ := lineF_2 S m; rw [h, p_l_la]
theorem lineF_ta (S : Sf) (m : Ms) : (lineF S m).2.ta = m.ta := by obtain ⟨l, h⟩ := lineF_2 S m; rw [h, p_l_ta]
theorem lineF_N (S : Sf) (m : Ms) : (lineF S m).2.N = m.N := by obtain ⟨l, h⟩ := lineF_2 S m; rw [h, p_l_N]
theorem lineF_p (S : Sf) (m : Ms) : (lineF S m).2.p = m.p := by obtain ⟨l, h⟩ := lineF_2 S m; rw [h, p_l_p]
theorem lineF_es (S : Sf) (m : Ms) : (lineF S m).2.es = m.es := by obtain ⟨l, h⟩ := lineF_2 S m; rw [h, p_l_es]
def in8 (x : Int) : Prop := 0 ≤ x ∧ x ≤ 8192
def u64 (x : Int) : Prop := (Lit.int .u64 x).wf = true
section
variable {W : World} {fb mb : Nat} {Z : Nat → Prop} {B : Nat} {S S' : Sf} {m m' : Ms} {w w' : World}
theorem FS.grow (h : FS W fb mb Z B S m w) (hb : Below w.heap.size w w') : FS W fb mb Z B S m w' := h.turn (Kp.of_below hb) (h.fd.keep hb) (Alike.refl _) h.sz
theorem st_T (m : Ms) (v : Int) (se sl sc : Value) : (msA m se sl sc).setIfInBounds 1 (.int .u64 v) = msA (p_T m v) se sl sc := rfl
theorem st_P (m : Ms) (v : Int) (se sl sc : Value) : (msA m se sl sc).setIfInBounds 2 (.int .i64 v) = msA (p_P m v) se sl sc := rfl
theorem st_PT (m : Ms) (v : Int) (se sl sc : Value) : (msA m se sl sc).setIfInBounds 3 (.int .u64 v) = msA (p_PT m v) se sl sc := rfl
theorem st_C (m : Ms) (v : Int) (se sl sc : Value) : (msA m se sl sc).setIfInBounds 5 (.int .i64 v) = msA (p_C m v) se sl sc := rfl
theorem st_Y (m : Ms) (v : Bool) (se sl sc : Value) : (msA m se sl sc).setIfInBounds 6 (.bool v) = msA (p_Y m v) se sl sc := rfl
theorem st_M (m : Ms) (v : Int) (se sl sc : Value) : (msA m se sl sc).setIfInBounds 7 (.int .i64 v) = msA (p_M m v) se sl sc := rfl
theorem st_S (m : Ms) (v : Int) (se sl sc : Value) : (msA m se sl sc).setIfInBounds 8 (.int .i64 v) = msA (p_S m v) se sl sc := rfl
theorem st_n (m : Ms) (v : Int) (se sl sc : Value) : (msA m se sl sc).setIfInBounds 13 (.int .i64 v) = msA (p_n m v) se sl sc := rfl
theorem st_la (m : Ms) (x y : Int) (se sl sc : Value) : ((msA m se sl sc).setIfInBounds 14 (.int .u64 x)).setIfInBounds (14 + 1) (.int .u64 y) = msA (p_la m (x, y)) se sl sc := rfl
theorem st_ta (m : Ms) (x y : Int) (se sl sc : Value) : ((msA m se sl sc).setIfInBounds 16 (.int .u64 x)).setIfInBounds (16 + 1) (.int .u64 y) = msA (p_ta m (x, y)) se sl sc := rfl
theorem st_N (m : Ms) (v : Int) (se sl sc : Value) : (msA m se sl sc).setIfInBounds 18 (.int .i64 v) = msA (p_N m v) se sl sc := rfl
theorem FS.iT {q : Sf × Ms} (h : FS W fb mb Z B q.1 q.2 w) (hx : u64 q.2.T) (hB : B ≤ 900000) :
    Calls Try.prog 36 #[.pointer (some ⟨fb, 0, none⟩), .slice (some ⟨w.heap.size, 0, none⟩) 1 1] (w.alloc (.cells #[.pointer (some ⟨mb, 1, none⟩)] 85)) fun e w' => e = .returned (.tuple #[]) ∧ FS W fb mb Z (B + 9) (iT q).1 (iT q).2 w' :=
  h.num (m' := p_T q.2 (numS q.1 q.2.T).2) 1 q.2.T hx (fun _ _ _ => rfl) (fun _ _ _ => st_T _ _ _ _ _) (p_T_es _ _) (by rw [p_T_l]) (p_T_p _ _) hB
theorem FS.iP {q : Sf × Ms} (h : FS W fb mb Z B q.1 q.2 w) (hx : in8 q.2.P) (hB : B ≤ 900000) :
    Calls Try.prog 22 #[.pointer (some ⟨fb, 0, none⟩), .slice (some ⟨w.heap.size, 0, none⟩) 1 1] (w.alloc (.cells #[.pointer (some ⟨mb, 2, none⟩)] 70)) fun e w' => e = .returned (.tuple #[]) ∧ FS W fb mb Z (B + 9) (iP q).1 (iP q).2 w' :=
  h.int (m' := p_P q.2 (intF q.1 q.2.P).2) 2 q.2.P hx (fun _ _ _ => rfl) (fun _ _ _ => st_P _ _ _ _ _) (p_P_es _ _) (by rw [p_P_l]) (p_P_p _ _) hB
theorem FS.iPT {q : Sf × Ms} (h : FS W fb mb Z B q.1 q.2 w) (hx : u64 q.2.PT) (hB : B ≤ 900000) :
    Calls Try.prog 36 #[.pointer (some ⟨fb, 0, none⟩), .slice (some ⟨w.heap.size, 0, none⟩) 1 1] (w.alloc (.cells #[.pointer (some ⟨mb, 3, none⟩)] 85)) fun e w' => e = .returned (.tuple #[]) ∧ FS W fb mb Z (B + 9) (iPT q).1 (iPT q).2 w' :=
  h.num (m' := p_PT q.2 (numS q.1 q.2.PT).2) 3 q.2.PT hx (fun _ _ _ => rfl) (fun _ _ _ => st_PT _ _ _ _ _) (p_PT_es _ _) (by rw [p_PT_l]) (p_PT_p _ _) hB
theorem FS.iY {q : Sf × Ms} (h : FS W fb mb Z B q.1 q.2 w) (hB : B ≤ 900000) :
    Calls Try.prog 54 #[.pointer (some ⟨fb, 0, none⟩), .pointer (some ⟨mb, 6, none⟩)] w fun e w' => e = .returned (.tuple #[]) ∧ FS W fb mb Z (B + 9) (iY q).1 (iY q).2 w' :=
  h.yes (m' := p_Y q.2 (yesF q.1 q.2.Y).2) 6 q.2.Y (fun _ _ _ => rfl) (fun _ _ _ => st_Y _ _ _ _ _) (p_Y_es _ _) (by rw [p_Y_l]) (p_Y_p _ _) hB
theorem FS.iC {q : Sf × Ms} (h : FS W fb mb Z B q.1 q.2 w) (hx : in8 q.2.C) (hB : B ≤ 900000) :
    Calls Try.prog 22 #[.pointer (some ⟨fb, 0, none⟩), .slice (some ⟨w.heap.size, 0, none⟩) 1 1] (w.alloc (.cells #[.pointer (some ⟨mb, 5, none⟩)] 70)) fun e w' => e = .returned (.tuple #[]) ∧ FS W fb mb Z (B + 9) (iC q).1 (iC q).2 w' :=
  h.int (m' := p_C q.2 (intF q.1 q.2.C).2) 5 q.2.C hx (fun _ _ _ => rfl) (fun _ _ _ => st_C _ _ _ _ _) (p_C_es _ _) (by rw [p_C_l]) (p_C_p _ _) hB
theorem FS.iM {q : Sf × Ms} (h : FS W fb mb Z B q.1 q.2 w) (hx : in8 q.2.M) (hB : B ≤ 900000) :
    Calls Try.prog 22 #[.pointer (some ⟨fb, 0, none⟩), .slice (some ⟨w.heap.size, 0, none⟩) 1 1] (w.alloc (.cells #[.pointer (some ⟨mb, 7, none⟩)] 70)) fun e w' => e = .returned (.tuple #[]) ∧ FS W fb mb Z (B + 9) (iM q).1 (iM q).2 w' :=
  h.int (m' := p_M q.2 (intF q.1 q.2.M).2) 7 q.2.M hx (fun _ _ _ => rfl) (fun _ _ _ => st_M _ _ _ _ _) (p_M_es _ _) (by rw [p_M_l]) (p_M_p _ _) hB
theorem FS.iL {q : Sf × Ms} (h : FS W fb mb Z B q.1 q.2 w) (hx : in8 q.2.n) (hB : B ≤ 900000) :
    Calls Try.prog 22 #[.pointer (some ⟨fb, 0, none⟩), .slice (some ⟨w.heap.size, 0, none⟩) 1 1] (w.alloc (.cells #[.pointer (some ⟨mb, 13, none⟩)] 70)) fun e w' => e = .returned (.tuple #[]) ∧ FS W fb mb Z (B + 9) (iL q).1 (iL q).2 w' :=
  h.int (m' := p_n q.2 (intF q.1 q.2.n).2) 13 q.2.n hx (fun _ _ _ => rfl) (fun _ _ _ => st_n _ _ _ _ _) (p_n_es _ _) (by rw [p_n_l]) (p_n_p _ _) hB
theorem FS.iN {q : Sf × Ms} (h : FS W fb mb Z B q.1 q.2 w) (hx : in8 q.2.N) (hB : B ≤ 900000) :
    Calls Try.prog 22 #[.pointer (some ⟨fb, 0, none⟩), .slice (some ⟨w.heap.size, 0, none⟩) 1 1] (w.alloc (.cells #[.pointer (some ⟨mb, 18, none⟩)] 70)) fun e w' => e = .returned (.tuple #[]) ∧ FS W fb mb Z (B + 9) (iN q).1 (iN q).2 w' :=
  h.int (m' := p_N q.2 (intF q.1 q.2.N).2) 18 q.2.N hx (fun _ _ _ => rfl) (fun _ _ _ => st_N _ _ _ _ _) (p_N_es _ _) (by rw [p_N_l]) (p_N_p _ _) hB
theorem FS.iS {q : Sf × Ms} (h : FS W fb mb Z B q.1 q.2 w) (hx : 0 ≤ q.2.S ∧ q.2.S ≤ 9223372036854775807) (hB : B ≤ 900000) :
    Calls Try.prog 56 #[.pointer (some ⟨fb, 0, none⟩)] w fun e w' => e = .returned (.tuple #[]) ∧ FS W fb mb Z (B + 9) (iS q).1 (iS q).2 w' := h.stamp hx hB
theorem FS.iLa {q : Sf × Ms} (h : FS W fb mb Z B q.1 q.2 w) (hx : wfG q.2.la) (hB : B ≤ 900000) :
    Calls Try.prog 57 #[.pointer (some ⟨fb, 0, none⟩), .pointer (some ⟨mb, 14, none⟩)] w fun e w' => e = .returned (.tuple #[]) ∧ FS W fb mb Z (B + 18) (iLa q).1 (iLa q).2 w' :=
  h.guid (m' := p_la q.2 (gdS q.1 q.2.la).2) 14 q.2.la hx (fun _ _ _ => rfl) (fun _ _ _ => rfl) (fun _ _ _ => st_la _ _ _ _ _ _) (p_la_es _ _) (by rw [p_la_l]) (p_la_p _ _) hB
theorem FS.iTa {q : Sf × Ms} (h : FS W fb mb Z B q.1 q.2 w) (hx : wfG q.2.ta) (hB : B ≤ 900000) :
    Calls Try.prog 57 #[.pointer (some ⟨fb, 0, none⟩), .pointer (some ⟨mb, 16, none⟩)] w fun e w' => e = .returned (.tuple #[]) ∧ FS W fb mb Z (B + 18) (iTa q).1 (iTa q).2 w' :=
  h.guid (m' := p_ta q.2 (gdS q.1 q.2.ta).2) 16 q.2.ta hx (fun _ _ _ => rfl) (fun _ _ _ => rfl) (fun _ _ _ => st_ta _ _ _ _ _ _) (p_ta_es _ _) (by rw [p_ta_l]) (p_ta_p _ _) hB
set_option maxHeartbeats 1000000 in
theorem ask_any (h : FS W fb mb Z B S m w) (hT : u64 m.T) (hP : in8 m.P) (hPT : u64 m.PT) (hB : B ≤ 800000) :
    Calls Try.prog 37 #[.pointer (some ⟨fb, 0, none⟩)] w fun e w' => e = .returned (.tuple #[]) ∧ FS W fb mb Z (B + 27) (askF S m).1 (askF S m).2 w' := by
  obtain ⟨q0, hq0⟩ : ∃ q : Sf × Ms, q = (S, m) := ⟨_, rfl⟩
  obtain ⟨q1, hq1⟩ : ∃ q : Sf × Ms, q = iT q0 := ⟨_, rfl⟩
  have xP : q1.2.P = m.P := by rw [hq1, iT_2, p_T_P, hq0]
  have xPT : q1.2.PT = m.PT := by rw [hq1, iT_2, p_T_PT, hq0]
  obtain ⟨q2, hq2⟩ : ∃ q : Sf × Ms, q = iP q1 := ⟨_, rfl⟩
  have yPT : q2.2.PT = m.PT := by rw [hq2, iP_2, p_P_PT, xPT]
  have hal : askF S m = (iPT q2) := by rw [askF, hq2, hq1, hq0]
  rw [hal]
  have h0 : FS W fb mb Z B q0.1 q0.2 w := by rw [hq0]; exact h
  have H0 := Lib.hid (h0.iT (by rw [hq0]; exact hT) (by omega))
  rw [← hq1] at H0
  have H1 := Lib.hid (fun w2 (h2 : FS W fb mb Z (B + 9) q1.1 q1.2 w2) => h2.iP (by rw [xP]; exact hP) (by omega))
  rw [← hq2] at H1
  have H2 := Lib.hid (fun w2 (h2 : FS W fb mb Z (B + 9 + 9) q2.1 q2.2 w2) => h2.iPT (by rw [yPT]; exact hPT) (by omega))
  have c0 := h.slots
  clear h hB hal h0
  go_enter Try.func37, Try.ntmps37
  go_wp2_with fail
  refine (H0.out).mono ?_
  rintro e w0 ⟨rfl, h0⟩
  have d0 := h0.slots
  have G0 := Lib.hid h0
  clear c0 h0
  go_wp2_with fail
  refine (H1.out w0 G0.out).mono ?_
  rintro e w1 ⟨rfl, h1⟩
  have d1 := h1.slots
  have G1 := Lib.hid h1
  clear d0 G0 h1
  go_wp2_with fail
  refine (H2.out w1 G1.out).mono ?_
  rintro e w2 ⟨rfl, h2⟩
  have d2 := h2.slots
  have G2 := Lib.hid h2
  clear d1 G1 h2
  go_wp2
  refine bodyPost_end (results_none rfl _ _ _) rfl ?_
  exact ⟨rfl, G2.out.mono (B' := B + 27) (by omega)⟩
set_option maxHeartbeats 1000000 in
theorem vote_any (h : FS W fb mb Z B S m w) (hT : u64 m.T) (hB : B ≤ 800000) :
    Calls Try.prog 38 #[.pointer (some ⟨fb, 0, none⟩)] w fun e w' => e = .returned (.tuple #[]) ∧ FS W fb mb Z (B + 18) (voteF S m).1 (voteF S m).2 w' := by
  obtain ⟨q0, hq0⟩ : ∃ q : Sf × Ms, q = (S, m) := ⟨_, rfl⟩
  obtain ⟨q1, hq1⟩ : ∃ q : Sf × Ms, q = iT q0 := ⟨_, rfl⟩
  have hal : voteF S m = (iY q1) := by rw [voteF, hq1, hq0]
  rw [hal]
  have h0 : FS W fb mb Z B q0.1 q0.2 w := by rw [hq0]; exact h
  have H0 := Lib.hid (h0.iT (by rw [hq0]; exact hT) (by omega))
  rw [← hq1] at H0
  have H1 := Lib.hid (fun w2 (h2 : FS W fb mb Z (B + 9) q1.1 q1.2 w2) => h2.iY (by omega))
  have c0 := h.slots
  clear h hB hal h0
  go_enter Try.func38, Try.ntmps38
  go_wp2_with fail
  refine (H0.out).mono ?_
  rintro e w0 ⟨rfl, h0⟩
  have d0 := h0.slots
  have G0 := Lib.hid h0
  clear c0 h0
  go_wp2_with fail
  refine (H1.out w0 G0.out).mono ?_
  rintro e w1 ⟨rfl, h1⟩
  have d1 := h1.slots
  have G1 := Lib.hid h1
  clear d0 G0 h1
  go_wp2
  refine bodyPost_end (results_none rfl _ _ _) rfl ?_
  exact ⟨rfl, G1.out.mono (B' := B + 18) (by omega)⟩
set_option maxHeartbeats 1000000 in
theorem appends_any (h : FS W fb mb Z B S m w) (hT : u64 m.T) (hP : in8 m.P) (hPT : u64 m.PT) (hK : ∀ e ∈ m.es, in8 e.K) (hL : m.es.length ≤ 8192) (hC : in8 m.C) (hS : 0 ≤ m.S ∧ m.S ≤ 9223372036854775807) (hrd : S.m.isRd = true → m.l.l = [] ∧ m.p.cs = []) (hB : B ≤ 100000) :
    Calls Try.prog 39 #[.pointer (some ⟨fb, 0, none⟩)] w fun e w' => e = .returned (.tuple #[]) ∧ FS W fb mb Z (B + 500000) (appendsF S m).1 (appendsF S m).2 w' := by
  obtain ⟨q1, hq1⟩ : ∃ q : Sf × Ms, q = askF S m := ⟨_, rfl⟩
  have x1 : q1.2.es = m.es := by rw [hq1, askF_es]
  have x2 : q1.2.l.l = m.l.l := by rw [hq1, askF_l]
  have x3 : q1.2.p.cs = m.p.cs := by rw [hq1, askF_p]
  have x4 : q1.2.C = m.C := by rw [hq1, askF_C]
  have x5 : q1.2.S = m.S := by rw [hq1, askF_S]
  have xr : q1.1.m.isRd = S.m.isRd := by rw [hq1, askF, iPT_1, alike_isRd_num, iP_1, alike_isRd_int, iT_1, alike_isRd_num]
  obtain ⟨q2, hq2⟩ : ∃ q : Sf × Ms, q = entF q1.1 q1.2 := ⟨_, rfl⟩
  have y4 : q2.2.C = m.C := by rw [hq2, entF_2, p_es_C, x4]
  have y5 : q2.2.S = m.S := by rw [hq2, entF_2, p_es_S, x5]
  obtain ⟨q3, hq3⟩ : ∃ q : Sf × Ms, q = iC q2 := ⟨_, rfl⟩
  have z5 : q3.2.S = m.S := by rw [hq3, iC_2, p_C_S, y5]
  have hal : appendsF S m = (iS q3) := by rw [appendsF, hq3, hq2, hq1]
  rw [hal]
  have H0 := Lib.hid (ask_any h hT hP hPT (by omega))
  rw [← hq1] at H0
  have H1 := Lib.hid (fun w2 (h2 : FS W fb mb Z (B + 27) q1.1 q1.2 w2) => ent_any h2 (by rw [x1]; exact hK) (by rw [x1]; exact hL) (by rw [x2, x3, xr]; exact hrd) (by omega))
  rw [← hq2] at H1
  have H2 := Lib.hid (fun w2 (h2 : FS W fb mb Z (B + 27 + 400000) q2.1 q2.2 w2) => h2.iC (by rw [y4]; exact hC) (by omega))
  rw [← hq3] at H2
  have H3 := Lib.hid (fun w2 (h2 : FS W fb mb Z (B + 27 + 400000 + 9) q3.1 q3.2 w2) => h2.iS (by rw [z5]; exact hS) (by omega))
  have c0 := h.slots
  clear h hB hal
  go_enter Try.func39, Try.ntmps39
  go_wp2_with fail
  refine (H0.out).mono ?_
  rintro e w0 ⟨rfl, h0⟩
  have d0 := h0.slots
  have G0 := Lib.hid h0
  clear c0 h0
  go_wp2_with fail
  refine (H1.out w0 G0.out).mono ?_
  rintro e w1 ⟨rfl, h1⟩
  have d1 := h1.slots
  have G1 := Lib.hid h1
  clear d0 G0 h1
  go_wp2_with fail
  refine (H2.out w1 G1.out).mono ?_
  rintro e w2 ⟨rfl, h2⟩
  have d2 := h2.slots
  have G2 := Lib.hid h2
  clear d1 G1 h2
  go_wp2_with fail
  refine (H3.out w2 G2.out).mono ?_
  rintro e w3 ⟨rfl, h3⟩
  have d3 := h3.slots
  have G3 := Lib.hid h3
  clear d2 G2 h3
  go_wp2
  refine bodyPost_end (results_none rfl _ _ _) rfl ?_
  exact ⟨rfl, G3.out.mono (B' := B + 500000) (by omega)⟩
set_option maxHeartbeats 1000000 in
theorem appended_any (h : FS W fb mb Z B S m w) (hT : u64 m.T) (hM : in8 m.M) (hS : 0 ≤ m.S ∧ m.S ≤ 9223372036854775807) (hB : B ≤ 100000) :
    Calls Try.prog 40 #[.pointer (some ⟨fb, 0, none⟩)] w fun e w' => e = .returned (.tuple #[]) ∧ FS W fb mb Z (B + 36) (appendedF S m).1 (appendedF S m).2 w' := by
  obtain ⟨q1, hq1⟩ : ∃ q : Sf × Ms, q = voteF S m := ⟨_, rfl⟩
  have x4 : q1.2.M = m.M := by rw [hq1, voteF_M]
  have x5 : q1.2.S = m.S := by rw [hq1, voteF_S]
  obtain ⟨q2, hq2⟩ : ∃ q : Sf × Ms, q = iM q1 := ⟨_, rfl⟩
  have z5 : q2.2.S = m.S := by rw [hq2, iM_2, p_M_S, x5]
  have hal : appendedF S m = (iS q2) := by rw [appendedF, hq2, hq1]
  rw [hal]
  have H0 := Lib.hid (vote_any h hT (by omega))
  rw [← hq1] at H0
  have H1 := Lib.hid (fun w2 (h2 : FS W fb mb Z (B + 18) q1.1 q1.2 w2) => h2.iM (by rw [x4]; exact hM) (by omega))
  rw [← hq2] at H1
  have H2 := Lib.hid (fun w2 (h2 : FS W fb mb Z (B + 18 + 9) q2.1 q2.2 w2) => h2.iS (by rw [z5]; exact hS) (by omega))
  have c0 := h.slots
  clear h hB hal
  go_enter Try.func40, Try.ntmps40
  go_wp2_with fail
  refine (H0.out).mono ?_
  rintro e w0 ⟨rfl, h0⟩
  have d0 := h0.slots
  have G0 := Lib.hid h0
  clear c0 h0
  go_wp2_with fail
  refine (H1.out w0 G0.out).mono ?_
  rintro e w1 ⟨rfl, h1⟩
  have d1 := h1.slots
  have G1 := Lib.hid h1
  clear d0 G0 h1
  go_wp2_with fail
  refine (H2.out w1 G1.out).mono ?_
  rintro e w2 ⟨rfl, h2⟩
  have d2 := h2.slots
  have G2 := Lib.hid h2
  clear d1 G1 h2
  go_wp2
  refine bodyPost_end (results_none rfl _ _ _) rfl ?_
  exact ⟨rfl, G2.out.mono (B' := B + 36) (by omega)⟩
set_option maxHeartbeats 1000000 in
theorem pull_any (h : FS W fb mb Z B S m w) (hE : u64 m.l.E) (hLB : in8 m.l.B) (hL : m.l.l.length ≤ 8192) (hn : in8 m.n) (hla : wfG m.la) (hta : wfG m.ta) (hN : in8 m.N) (hrd : S.m.isRd = true → m.es = [] ∧ m.p.cs = []) (hB : B ≤ 100000) :
    Calls Try.prog 41 #[.pointer (some ⟨fb, 0, none⟩)] w fun e w' => e = .returned (.tuple #[]) ∧ FS W fb mb Z (B + 300000) (pullF S m).1 (pullF S m).2 w' := by
  obtain ⟨q1, hq1⟩ : ∃ q : Sf × Ms, q = lineF S m := ⟨_, rfl⟩
  have x1 : q1.2.n = m.n := by rw [hq1, lineF_n]
  have x2 : q1.2.la = m.la := by rw [hq1, lineF_la]
  have x3 : q1.2.ta = m.ta := by rw [hq1, lineF_ta]
  have x4 : q1.2.N = m.N := by rw [hq1, lineF_N]
  obtain ⟨q2, hq2⟩ : ∃ q : Sf × Ms, q = iL q1 := ⟨_, rfl⟩
  have y2 : q2.2.la = m.la := by rw [hq2, iL_2, p_n_la, x2]
  have y3 : q2.2.ta = m.ta := by rw [hq2, iL_2, p_n_ta, x3]
  have y4 : q2.2.N = m.N := by rw [hq2, iL_2, p_n_N, x4]
  obtain ⟨q3, hq3⟩ : ∃ q : Sf × Ms, q = iLa q2 := ⟨_, rfl⟩
  have z3 : q3.2.ta = m.ta := by rw [hq3, iLa_2, p_la_ta, y3]
  have z4 : q3.2.N = m.N := by rw [hq3, iLa_2, p_la_N, y4]
  obtain ⟨q4, hq4⟩ : ∃ q : Sf × Ms, q = iTa q3 := ⟨_, rfl⟩
  have u4 : q4.2.N = m.N := by rw [hq4, iTa_2, p_ta_N, z4]
  have hal : pullF S m = (iN q4) := by rw [pullF, hq4, hq3, hq2, hq1]
  rw [hal]
  have H0 := Lib.hid (line_any h hE hLB hL hrd (by omega))
  rw [← hq1] at H0
  have H1 := Lib.hid (fun w2 (h2 : FS W fb mb Z (B + 200000) q1.1 q1.2 w2) => h2.iL (by rw [x1]; exact hn) (by omega))
  rw [← hq2] at H1
  have H2 := Lib.hid (fun w2 (h2 : FS W fb mb Z (B + 200000 + 9) q2.1 q2.2 w2) => h2.iLa (by rw [y2]; exact hla) (by omega))
  rw [← hq3] at H2
  have H3 := Lib.hid (fun w2 (h2 : FS W fb mb Z (B + 200000 + 9 + 18) q3.1 q3.2 w2) => h2.iTa (by rw [z3]; exact hta) (by omega))
  rw [← hq4] at H3
  have H4 := Lib.hid (fun w2 (h2 : FS W fb mb Z (B + 200000 + 9 + 18 + 18) q4.1 q4.2 w2) => h2.iN (by rw [u4]; exact hN) (by omega))
  have c0 := h.slots
  clear h hB hal
  go_enter Try.func41, Try.ntmps41
  go_wp2_with fail
  refine (H0.out).mono ?_
  rintro e w0 ⟨rfl, h0⟩
  have d0 := h0.slots
  have G0 := Lib.hid h0
  clear c0 h0
  go_wp2_with fail
  refine (H1.out w0 G0.out).mono ?_
  rintro e w1 ⟨rfl, h1⟩
  have d1 := h1.slots
  have G1 := Lib.hid h1
  clear d0 G0 h1
  go_wp2_with fail
  refine (H2.out w1 G1.out).mono ?_
  rintro e w2 ⟨rfl, h2⟩
  have d2 := h2.slots
  have G2 := Lib.hid h2
  clear d1 G1 h2
  go_wp2_with fail
  refine (H3.out w2 G2.out).mono ?_
  rintro e w3 ⟨rfl, h3⟩
  have d3 := h3.slots
  have G3 := Lib.hid h3
  clear d2 G2 h3
  go_wp2_with fail
  refine (H4.out w3 G3.out).mono ?_
  rintro e w4 ⟨rfl, h4⟩
  have d4 := h4.slots
  have G4 := Lib.hid h4
  clear d3 G3 h4
  go_wp2
  refine bodyPost_end (results_none rfl _ _ _) rfl ?_
  exact ⟨rfl, G4.out.mono (B' := B + 300000) (by omega)⟩
set_option maxHeartbeats 1000000 in
theorem parted_any (h : FS W fb mb Z B S m w) (hE : u64 m.l.E) (hLB : in8 m.l.B) (hL : m.l.l.length ≤ 8192) (hrd : S.m.isRd = true → m.es = [] ∧ m.p.cs = []) (hB : B ≤ 100000) :
    Calls Try.prog 42 #[.pointer (some ⟨fb, 0, none⟩)] w fun e w' => e = .returned (.tuple #[]) ∧ FS W fb mb Z (B + 300000) (partedF S m).1 (partedF S m).2 w' := by
  obtain ⟨q1, hq1⟩ : ∃ q : Sf × Ms, q = lineF S m := ⟨_, rfl⟩
  have hal : partedF S m = (partF q1.1 q1.2) := by rw [partedF, hq1]
  rw [hal]
  have H0 := Lib.hid (line_any h hE hLB hL hrd (by omega))
  rw [← hq1] at H0
  have H1 := Lib.hid (fun w2 (h2 : FS W fb mb Z (B + 200000) q1.1 q1.2 w2) => part_any h2 (by omega))
  have c0 := h.slots
  clear h hB hal
  go_enter Try.func42, Try.ntmps42
  go_wp2_with fail
  refine (H0.out).mono ?_
  rintro e w0 ⟨rfl, h0⟩
  have d0 := h0.slots
  have G0 := Lib.hid h0
  clear c0 h0
  go_wp2_with fail
  refine (H1.out w0 G0.out).mono ?_
  rintro e w1 ⟨rfl, h1⟩
  have d1 := h1.slots
  have G1 := Lib.hid h1
  clear d0 G0 h1
  go_wp2
  refine bodyPost_end (results_none rfl _ _ _) rfl ?_
  exact ⟨rfl, G1.out.mono (B' := B + 300000) (by omega)⟩
end
end Go.Proofs.Ytikimmhkfjaijaa
namespace Go.Proofs.Ytikimmhkfjaijaa
open Go.RowKit Reg Go.ChangeShapes

section
variable {W : World} {fb mb : Nat} {Z : Nat → Prop} {B : Nat} {S S' : Sf} {m m' : Ms} {w w' : World}
/-- what is asked of a message whose fields are gone through -/
structure OkIn (rd : Bool) (m : Ms) : Prop where
  T : 1 ≤ m.K ∧ m.K ≤ 4 → u64 m.T
  P : m.K = 1 ∨ m.K = 3 → in8 m.P ∧ u64 m.PT
  es : m.K = 3 → (∀ e ∈ m.es, in8 e.K) ∧ m.es.length ≤ 8192 ∧ in8 m.C
  M : m.K = 4 → in8 m.M
  S : m.K = 3 ∨ m.K = 4 → 0 ≤ m.S ∧ m.S ≤ 9223372036854775807
  l : 5 ≤ m.K ∧ m.K ≤ 7 → u64 m.l.E ∧ in8 m.l.B ∧ m.l.l.length ≤ 8192
  pu : m.K = 5 → in8 m.n ∧ wfG m.la ∧ wfG m.ta ∧ in8 m.N
  rd : rd = true → m.es = [] ∧ m.l.l = [] ∧ m.p.cs = []
theorem push_set {α : Type} (a : Array α) (x y : α) : (a.push x).setIfInBounds a.size y = a.push y := by
  apply Array.ext'
  simp
def tabE (k : Nat) : Array MapEntry := (([.func (.func 37) #[] #[], .func (.func 38) #[] #[], .func (.func 39) #[] #[], .func (.func 40) #[] #[], .func (.func 41) #[] #[], .func (.func 42) #[] #[], .func (.func 43) #[] #[]].zipIdx.map fun (x : Value × Nat) => ({ key := .int .i64 ((x.2 : Int) + 1), val := x.1, born := x.2 } : MapEntry)).take k).toArray
def tabO (k : Nat) : Obj := .map (tabE k) k
theorem put_run (w : World) (k : Nat) (z : Int) (v : Value) (h : Instr.findNow (.int .i64) (.int .i64 z) (tabE k).toList 0 = some none) (he : (tabE k).push { key := .int .i64 z, val := v, born := k } = tabE (k + 1)) :
    (Instr.mapUpdate 88 (.map (some w.heap.size)) (.int .i64 z) v).run Try.prog (w.alloc (tabO k)) = .ok () (w.alloc (tabO (k + 1))) := by
  have hb : (w.alloc (tabO k)).heap[w.heap.size]? = some (.map (tabE k) k) := heap_alloc_new w _
  unfold Instr.mapUpdate
  simp only [Sem.run_bind, run_underlying Try.underlying88, Result.andThen_ok, MapKept.run_getObj_map hb, MapKept.run_checkKey Try.underlying3 (show MapKept.IsKey (.int .i64) (.int .i64 z) from rfl), MapKept.run_findKey Try.underlying3 h, MapKept.run_setObj_map _ hb, he]
  congr 1
  simp only [World.alloc, World.mk.injEq, and_true]
  exact push_set _ _ _
theorem look_run (w : World) (z : Int) (v : Value) (i : Nat) (h : Instr.findNow (.int .i64) (.int .i64 z) (tabE 7).toList 0 = some (some (i, v))) :
    (Instr.lookup 88 (.map (some w.heap.size)) (.int .i64 z) true).run Try.prog (w.alloc (tabO 7)) = .ok (.tuple #[v, .bool true]) (w.alloc (tabO 7)) := by
  have hb : (w.alloc (tabO 7)).heap[w.heap.size]? = some (.map (tabE 7) 7) := heap_alloc_new w _
  unfold Instr.lookup
  simp only [Sem.run_bind, run_underlying Try.underlying88, Result.andThen_ok, MapKept.run_getObj_map hb, MapKept.run_checkKey Try.underlying3 (show MapKept.IsKey (.int .i64) (.int .i64 z) from rfl), MapKept.run_findKey Try.underlying3 h, Sem.run_pure]
  rfl
theorem fun_info : (Try.prog.info? 86).map (fun i => i.zero) = some (some (.nilFunc)) := by kernel_rfl
theorem fun_zero (w : World) : (zeroValue 86).run Try.prog w = .ok .nilFunc w := by
  have h := fun_info
  cases hi : Try.prog.info? 86 with
  | none => rw [hi] at h; cases h
  | some i =>
    rw [hi] at h
    simp only [Option.map_some, Option.some.injEq] at h
    simp [zeroValue, typeInfo, hi, h]
theorem miss_run (w : World) (z : Int) (h : Instr.findNow (.int .i64) (.int .i64 z) (tabE 7).toList 0 = some none) :
    ∃ v, (Instr.lookup 88 (.map (some w.heap.size)) (.int .i64 z) true).run Try.prog (w.alloc (tabO 7)) = .ok (.tuple #[v, .bool false]) (w.alloc (tabO 7)) := by
  have hb : (w.alloc (tabO 7)).heap[w.heap.size]? = some (.map (tabE 7) 7) := heap_alloc_new w _
  have hv := fun_zero (w.alloc (tabO 7))
  refine ⟨.nilFunc, ?_⟩
  unfold Instr.lookup
  simp only [Sem.run_bind, run_underlying Try.underlying88, Result.andThen_ok, MapKept.run_getObj_map hb, MapKept.run_checkKey Try.underlying3 (show MapKept.IsKey (.int .i64) (.int .i64 z) from rfl), MapKept.run_findKey Try.underlying3 h, Sem.run_pure, hv]
  rfl
set_option maxRecDepth 100000 in
set_option maxHeartbeats 1000000 in
theorem all_1 (h : FS W fb mb Z B S m w) (hok : OkIn S.m.isRd m) (hk : m.K = 1) (hB : B ≤ 100) :
    Calls Try.prog 23 #[.pointer (some ⟨fb, 0, none⟩)] w fun e w' => e = .returned (.tuple #[]) ∧ FS W fb mb Z (B + 500000) (allF S m).1 (allF S m).2 w' := by
  have hal : allF S m = askF S m := by
    unfold allF
    rw [if_pos hk]
  rw [hal]
  have hb := (Below.refl w.heap.size w).alloc (Nat.le_refl _) (tabO 7)
  have hg := h.grow hb
  have H := Lib.hid (ask_any hg (hok.T (by omega)) (hok.P (by omega)).1 (hok.P (by omega)).2 (by omega))
  have c0 := hg.slots
  have c1 : (w.alloc (tabO 7)).cell? ⟨mb, 0, none⟩ = some (.int .i64 1) := by rw [← hk]; exact (hg.cellAt fun _ _ _ => rfl).1
  have p0 := put_run w 0 1 (.func (.func 37) #[] #[]) rfl rfl
  have p1 := put_run w 1 2 (.func (.func 38) #[] #[]) rfl rfl
  have p2 := put_run w 2 3 (.func (.func 39) #[] #[]) rfl rfl
  have p3 := put_run w 3 4 (.func (.func 40) #[] #[]) rfl rfl
  have p4 := put_run w 4 5 (.func (.func 41) #[] #[]) rfl rfl
  have p5 := put_run w 5 6 (.func (.func 42) #[] #[]) rfl rfl
  have p6 := put_run w 6 7 (.func (.func 43) #[] #[]) rfl rfl
  have pl := look_run w 1 (.func (.func 37) #[] #[]) 0 rfl
  have hmm : ∀ t, (Instr.makeMap t none).run Try.prog w = .ok (.map (some w.heap.size)) (w.alloc (tabO 0)) := fun t => run_makeMap t w
  clear h hok hk hB hal hb hg
  generalize tabO 0 = o0 at *
  generalize tabO 1 = o1 at *
  generalize tabO 2 = o2 at *
  generalize tabO 3 = o3 at *
  generalize tabO 4 = o4 at *
  generalize tabO 5 = o5 at *
  generalize tabO 6 = o6 at *
  generalize tabO 7 = o7 at *
  go_enter Try.func23, Try.ntmps23
  go_wp2_with fail
  refine H.out.mono ?_
  rintro e w1 ⟨rfl, h1⟩
  have G1 := Lib.hid h1
  clear h1 c0 c1 p0 p1 p2 p3 p4 p5 p6 pl hmm
  go_wp2
  refine bodyPost_end (results_none rfl _ _ _) rfl ?_
  exact ⟨rfl, G1.out.mono (B' := B + 500000) (by omega)⟩
set_option maxRecDepth 100000 in
set_option maxHeartbeats 1000000 in
theorem all_2 (h : FS W fb mb Z B S m w) (hok : OkIn S.m.isRd m) (hk : m.K = 2) (hB : B ≤ 100) :
    Calls Try.prog 23 #[.pointer (some ⟨fb, 0, none⟩)] w fun e w' => e = .returned (.tuple #[]) ∧ FS W fb mb Z (B + 500000) (allF S m).1 (allF S m).2 w' := by
  have hal : allF S m = voteF S m := by
    unfold allF
    rw [if_neg (by omega), if_pos hk]
  rw [hal]
  have hb := (Below.refl w.heap.size w).alloc (Nat.le_refl _) (tabO 7)
  have hg := h.grow hb
  have H := Lib.hid (vote_any hg (hok.T (by omega)) (by omega))
  have c0 := hg.slots
  have c1 : (w.alloc (tabO 7)).cell? ⟨mb, 0, none⟩ = some (.int .i64 2) := by rw [← hk]; exact (hg.cellAt fun _ _ _ => rfl).1
  have p0 := put_run w 0 1 (.func (.func 37) #[] #[]) rfl rfl
  have p1 := put_run w 1 2 (.func (.func 38) #[] #[]) rfl rfl
  have p2 := put_run w 2 3 (.func (.func 39) #[] #[]) rfl rfl
  have p3 := put_run w 3 4 (.func (.func 40) #[] #[]) rfl rfl
  have p4 := put_run w 4 5 (.func (.func 41) #[] #[]) rfl rfl
  have p5 := put_run w 5 6 (.func (.func 42) #[] #[]) rfl rfl
  have p6 := put_run w 6 7 (.func (.func 43) #[] #[]) rfl rfl
  have pl := look_run w 2 (.func (.func 38) #[] #[]) 1 rfl
  have hmm : ∀ t, (Instr.makeMap t none).run Try.prog w = .ok (.map (some w.heap.size)) (w.alloc (tabO 0)) := fun t => run_makeMap t w
  clear h hok hk hB hal hb hg
  generalize tabO 0 = o0 at *
  generalize tabO 1 = o1 at *
  generalize tabO 2 = o2 at *
  generalize tabO 3 = o3 at *
  generalize tabO 4 = o4 at *
  generalize tabO 5 = o5 at *
  generalize tabO 6 = o6 at *
  generalize tabO 7 = o7 at *
  go_enter Try.func23, Try.ntmps23
  go_wp2_with fail
  refine H.out.mono ?_
  rintro e w1 ⟨rfl, h1⟩
  have G1 := Lib.hid h1
  clear h1 c0 c1 p0 p1 p2 p3 p4 p5 p6 pl hmm
  go_wp2
  refine bodyPost_end (results_none rfl _ _ _) rfl ?_
  exact ⟨rfl, G1.out.mono (B' := B + 500000) (by omega)⟩
set_option maxRecDepth 100000 in
set_option maxHeartbeats 1000000 in
theorem all_3 (h : FS W fb mb Z B S m w) (hok : OkIn S.m.isRd m) (hk : m.K = 3) (hB : B ≤ 100) :
    Calls Try.prog 23 #[.pointer (some ⟨fb, 0, none⟩)] w fun e w' => e = .returned (.tuple #[]) ∧ FS W fb mb Z (B + 500000) (allF S m).1 (allF S m).2 w' := by
  have hal : allF S m = appendsF S m := by
    unfold allF
    rw [if_neg (by omega), if_neg (by omega), if_pos hk]
  rw [hal]
  have hb := (Below.refl w.heap.size w).alloc (Nat.le_refl _) (tabO 7)
  have hg := h.grow hb
  have H := Lib.hid (appends_any hg (hok.T (by omega)) (hok.P (by omega)).1 (hok.P (by omega)).2 (hok.es (by omega)).1 (hok.es (by omega)).2.1 (hok.es (by omega)).2.2 (hok.S (by omega)) (fun hr => (hok.rd hr).2) (by omega))
  have c0 := hg.slots
  have c1 : (w.alloc (tabO 7)).cell? ⟨mb, 0, none⟩ = some (.int .i64 3) := by rw [← hk]; exact (hg.cellAt fun _ _ _ => rfl).1
  have p0 := put_run w 0 1 (.func (.func 37) #[] #[]) rfl rfl
  have p1 := put_run w 1 2 (.func (.func 38) #[] #[]) rfl rfl
  have p2 := put_run w 2 3 (.func (.func 39) #[] #[]) rfl rfl
  have p3 := put_run w 3 4 (.func (.func 40) #[] #[]) rfl rfl
  have p4 := put_run w 4 5 (.func (.func 41) #[] #[]) rfl rfl
  have p5 := put_run w 5 6 (.func (.func 42) #[] #[]) rfl rfl
  have p6 := put_run w 6 7 (.func (.func 43) #[] #[]) rfl rfl
  have pl := look_run w 3 (.func (.func 39) #[] #[]) 2 rfl
  have hmm : ∀ t, (Instr.makeMap t none).run Try.prog w = .ok (.map (some w.heap.size)) (w.alloc (tabO 0)) := fun t => run_makeMap t w
  clear h hok hk hB hal hb hg
  generalize tabO 0 = o0 at *
  generalize tabO 1 = o1 at *
  generalize tabO 2 = o2 at *
  generalize tabO 3 = o3 at *
  generalize tabO 4 = o4 at *
  generalize tabO 5 = o5 at *
  generalize tabO 6 = o6 at *
  generalize tabO 7 = o7 at *
  go_enter Try.func23, Try.ntmps23
  go_wp2_with fail
  refine H.out.mono ?_
  rintro e w1 ⟨rfl, h1⟩
  have G1 := Lib.hid h1
  clear h1 c0 c1 p0 p1 p2 p3 p4 p5 p6 pl hmm
  go_wp2
  refine bodyPost_end (results_none rfl _ _ _) rfl ?_
  exact ⟨rfl, G1.out.mono (B' := B + 500000) (by omega)⟩
set_option maxRecDepth 100000 in
set_option maxHeartbeats 1000000 in
theorem all_4 (h : FS W fb mb Z B S m w) (hok : OkIn S.m.isRd m) (hk : m.K = 4) (hB : B ≤ 100) :
    Calls Try.prog 23 #[.pointer (some ⟨fb, 0, none⟩)] w fun e w' => e = .returned (.tuple #[]) ∧ FS W fb mb Z (B + 500000) (allF S m).1 (allF S m).2 w' := by
  have hal : allF S m = appendedF S m := by
    unfold allF
    rw [if_neg (by omega), if_neg (by omega), if_neg (by omega), if_pos hk]
  rw [hal]
  have hb := (Below.refl w.heap.size w).alloc (Nat.le_refl _) (tabO 7)
  have hg := h.grow hb
  have H := Lib.hid (appended_any hg (hok.T (by omega)) (hok.M (by omega)) (hok.S (by omega)) (by omega))
  have c0 := hg.slots
  have c1 : (w.alloc (tabO 7)).cell? ⟨mb, 0, none⟩ = some (.int .i64 4) := by rw [← hk]; exact (hg.cellAt fun _ _ _ => rfl).1
  have p0 := put_run w 0 1 (.func (.func 37) #[] #[]) rfl rfl
  have p1 := put_run w 1 2 (.func (.func 38) #[] #[]) rfl rfl
  have p2 := put_run w 2 3 (.func (.func 39) #[] #[]) rfl rfl
  have p3 := put_run w 3 4 (.func (.func 40) #[] #[]) rfl rfl
  have p4 := put_run w 4 5 (.func (.func 41) #[] #[]) rfl rfl
  have p5 := put_run w 5 6 (.func (.func 42) #[] #[]) rfl rfl
  have p6 := put_run w 6 7 (.func (.func 43) #[] #[]) rfl rfl
  have pl := look_run w 4 (.func (.func 40) #[] #[]) 3 rfl
  have hmm : ∀ t, (Instr.makeMap t none).run Try.prog w = .ok (.map (some w.heap.size)) (w.alloc (tabO 0)) := fun t => run_makeMap t w
  clear h hok hk hB hal hb hg
  generalize tabO 0 = o0 at *
  generalize tabO 1 = o1 at *
  generalize tabO 2 = o2 at *
  generalize tabO 3 = o3 at *
  generalize tabO 4 = o4 at *
  generalize tabO 5 = o5 at *
  generalize tabO 6 = o6 at *
  generalize tabO 7 = o7 at *
  go_enter Try.func23, Try.ntmps23
  go_wp2_with fail
  refine H.out.mono ?_
  rintro e w1 ⟨rfl, h1⟩
  have G1 := Lib.hid h1
  clear h1 c0 c1 p0 p1 p2 p3 p4 p5 p6 pl hmm
  go_wp2
  refine bodyPost_end (results_none rfl _ _ _) rfl ?_
  exact ⟨rfl, G1.out.mono (B' := B + 500000) (by omega)⟩
set_option maxRecDepth 100000 in
set_option maxHeartbeats 1000000 in
theorem all_5 (h : FS W fb mb Z B S m w) (hok : OkIn S.m.isRd m) (hk : m.K = 5) (hB : B ≤ 100) :
    Calls Try.prog 23 #[.pointer (some ⟨fb, 0, none⟩)] w fun e w' => e = .returned (.tuple #[]) ∧ FS W fb mb Z (B + 500000) (allF S m).1 (allF S m).2 w' := by
  have hal : allF S m = pullF S m := by
    unfold allF
    rw [if_neg (by omega), if_neg (by omega), if_neg (by omega), if_neg (by omega), if_pos hk]
  rw [hal]
  have hb := (Below.refl w.heap.size w).alloc (Nat.le_refl _) (tabO 7)
  have hg := h.grow hb
  have H := Lib.hid (pull_any hg (hok.l (by omega)).1 (hok.l (by omega)).2.1 (hok.l (by omega)).2.2 (hok.pu (by omega)).1 (hok.pu (by omega)).2.1 (hok.pu (by omega)).2.2.1 (hok.pu (by omega)).2.2.2 (fun hr => ⟨(hok.rd hr).1, (hok.rd hr).2.2⟩) (by omega))
  have c0 := hg.slots
  have c1 : (w.alloc (tabO 7)).cell? ⟨mb, 0, none⟩ = some (.int .i64 5) := by rw [← hk]; exact (hg.cellAt fun _ _ _ => rfl).1
  have p0 := put_run w 0 1 (.func (.func 37) #[] #[]) rfl rfl
  have p1 := put_run w 1 2 (.func (.func 38) #[] #[]) rfl rfl
  have p2 := put_run w 2 3 (.func (.func 39) #[] #[]) rfl rfl
  have p3 := put_run w 3 4 (.func (.func 40) #[] #[]) rfl rfl
  have p4 := put_run w 4 5 (.func (.func 41) #[] #[]) rfl rfl
  have p5 := put_run w 5 6 (.func (.func 42) #[] #[]) rfl rfl
  have p6 := put_run w 6 7 (.func (.func 43) #[] #[]) rfl rfl
  have pl := look_run w 5 (.func (.func 41) #[] #[]) 4 rfl
  have hmm : ∀ t, (Instr.makeMap t none).run Try.prog w = .ok (.map (some w.heap.size)) (w.alloc (tabO 0)) := fun t => run_makeMap t w
  clear h hok hk hB hal hb hg
  generalize tabO 0 = o0 at *
  generalize tabO 1 = o1 at *
  generalize tabO 2 = o2 at *
  generalize tabO 3 = o3 at *
  generalize tabO 4 = o4 at *
  generalize tabO 5 = o5 at *
  generalize tabO 6 = o6 at *
  generalize tabO 7 = o7 at *
  go_enter Try.func23, Try.ntmps23
  go_wp2_with fail
  refine H.out.mono ?_
  rintro e w1 ⟨rfl, h1⟩
  have G1 := Lib.hid h1
  clear h1 c0 c1 p0 p1 p2 p3 p4 p5 p6 pl hmm
  go_wp2
  refine bodyPost_end (results_none rfl _ _ _) rfl ?_
  exact ⟨rfl, G1.out.mono (B' := B + 500000) (by omega)⟩
set_option maxRecDepth 100000 in
set_option maxHeartbeats 1000000 in
theorem all_6 (h : FS W fb mb Z B S m w) (hok : OkIn S.m.isRd m) (hk : m.K = 6) (hB : B ≤ 100) :
    Calls Try.prog 23 #[.pointer (some ⟨fb, 0, none⟩)] w fun e w' => e = .returned (.tuple #[]) ∧ FS W fb mb Z (B + 500000) (allF S m).1 (allF S m).2 w' := by
  have hal : allF S m = partedF S m := by
    unfold allF
    rw [if_neg (by omega), if_neg (by omega), if_neg (by omega), if_neg (by omega), if_neg (by omega), if_pos hk]
  rw [hal]
  have hb := (Below.refl w.heap.size w).alloc (Nat.le_refl _) (tabO 7)
  have hg := h.grow hb
  have H := Lib.hid (parted_any hg (hok.l (by omega)).1 (hok.l (by omega)).2.1 (hok.l (by omega)).2.2 (fun hr => ⟨(hok.rd hr).1, (hok.rd hr).2.2⟩) (by omega))
  have c0 := hg.slots
  have c1 : (w.alloc (tabO 7)).cell? ⟨mb, 0, none⟩ = some (.int .i64 6) := by rw [← hk]; exact (hg.cellAt fun _ _ _ => rfl).1
  have p0 := put_run w 0 1 (.func (.func 37) #[] #[]) rfl rfl
  have p1 := put_run w 1 2 (.func (.func 38) #[] #[]) rfl rfl
  have p2 := put_run w 2 3 (.func (.func 39) #[] #[]) rfl rfl
  have p3 := put_run w 3 4 (.func (.func 40) #[] #[]) rfl rfl
  have p4 := put_run w 4 5 (.func (.func 41) #[] #[]) rfl rfl
  have p5 := put_run w 5 6 (.func (.func 42) #[] #[]) rfl rfl
  have p6 := put_run w 6 7 (.func (.func 43) #[] #[]) rfl rfl
  have pl := look_run w 6 (.func (.func 42) #[] #[]) 5 rfl
  have hmm : ∀ t, (Instr.makeMap t none).run Try.prog w = .ok (.map (some w.heap.size)) (w.alloc (tabO 0)) := fun t => run_makeMap t w
  clear h hok hk hB hal hb hg
  generalize tabO 0 = o0 at *
  generalize tabO 1 = o1 at *
  generalize tabO 2 = o2 at *
  generalize tabO 3 = o3 at *
  generalize tabO 4 = o4 at *
  generalize tabO 5 = o5 at *
  generalize tabO 6 = o6 at *
  generalize tabO 7 = o7 at *
  go_enter Try.func23, Try.ntmps23
  go_wp2_with fail
  refine H.out.mono ?_
  rintro e w1 ⟨rfl, h1⟩
  have G1 := Lib.hid h1
  clear h1 c0 c1 p0 p1 p2 p3 p4 p5 p6 pl hmm
  go_wp2
  refine bodyPost_end (results_none rfl _ _ _) rfl ?_
  exact ⟨rfl, G1.out.mono (B' := B + 500000) (by omega)⟩
set_option maxRecDepth 100000 in
set_option maxHeartbeats 1000000 in
theorem all_7 (h : FS W fb mb Z B S m w) (hok : OkIn S.m.isRd m) (hk : m.K = 7) (hB : B ≤ 100) :
    Calls Try.prog 23 #[.pointer (some ⟨fb, 0, none⟩)] w fun e w' => e = .returned (.tuple #[]) ∧ FS W fb mb Z (B + 500000) (allF S m).1 (allF S m).2 w' := by
  have hal : allF S m = lineF S m := by
    unfold allF
    rw [if_neg (by omega), if_neg (by omega), if_neg (by omega), if_neg (by omega), if_neg (by omega), if_neg (by omega), if_pos hk]
  rw [hal]
  have hb := (Below.refl w.heap.size w).alloc (Nat.le_refl _) (tabO 7)
  have hg := h.grow hb
  have H := Lib.hid (line_any hg (hok.l (by omega)).1 (hok.l (by omega)).2.1 (hok.l (by omega)).2.2 (fun hr => ⟨(hok.rd hr).1, (hok.rd hr).2.2⟩) (by omega))
  have c0 := hg.slots
  have c1 : (w.alloc (tabO 7)).cell? ⟨mb, 0, none⟩ = some (.int .i64 7) := by rw [← hk]; exact (hg.cellAt fun _ _ _ => rfl).1
  have p0 := put_run w 0 1 (.func (.func 37) #[] #[]) rfl rfl
  have p1 := put_run w 1 2 (.func (.func 38) #[] #[]) rfl rfl
  have p2 := put_run w 2 3 (.func (.func 39) #[] #[]) rfl rfl
  have p3 := put_run w 3 4 (.func (.func 40) #[] #[]) rfl rfl
  have p4 := put_run w 4 5 (.func (.func 41) #[] #[]) rfl rfl
  have p5 := put_run w 5 6 (.func (.func 42) #[] #[]) rfl rfl
  have p6 := put_run w 6 7 (.func (.func 43) #[] #[]) rfl rfl
  have pl := look_run w 7 (.func (.func 43) #[] #[]) 6 rfl
  have hmm : ∀ t, (Instr.makeMap t none).run Try.prog w = .ok (.map (some w.heap.size)) (w.alloc (tabO 0)) := fun t => run_makeMap t w
  clear h hok hk hB hal hb hg
  generalize tabO 0 = o0 at *
  generalize tabO 1 = o1 at *
  generalize tabO 2 = o2 at *
  generalize tabO 3 = o3 at *
  generalize tabO 4 = o4 at *
  generalize tabO 5 = o5 at *
  generalize tabO 6 = o6 at *
  generalize tabO 7 = o7 at *
  go_enter Try.func23, Try.ntmps23
  go_wp2_with fail
  refine H.out.mono ?_
  rintro e w1 ⟨rfl, h1⟩
  have G1 := Lib.hid h1
  clear h1 c0 c1 p0 p1 p2 p3 p4 p5 p6 pl hmm
  go_wp2
  refine bodyPost_end (results_none rfl _ _ _) rfl ?_
  exact ⟨rfl, G1.out.mono (B' := B + 500000) (by omega)⟩
set_option maxRecDepth 100000 in
set_option maxHeartbeats 1000000 in
theorem all_no (h : FS W fb mb Z B S m w) (hk : m.K < 1 ∨ 7 < m.K) :
    Calls Try.prog 23 #[.pointer (some ⟨fb, 0, none⟩)] w fun e w' => e = .returned (.tuple #[]) ∧ FS W fb mb Z (B + 500000) (allF S m).1 (allF S m).2 w' := by
  have hal : allF S m = (⟨S.m, true⟩, m) := by
    unfold allF
    rw [if_neg (by omega), if_neg (by omega), if_neg (by omega), if_neg (by omega), if_neg (by omega), if_neg (by omega), if_neg (by omega)]
  rw [hal]
  have hb := (Below.refl w.heap.size w).alloc (Nat.le_refl _) (tabO 7)
  have hg := h.grow hb
  have H := Lib.hid (hg.badTo true)
  have c0 := hg.slots
  have c1 : (w.alloc (tabO 7)).cell? ⟨mb, 0, none⟩ = some (.int .i64 m.K) := (hg.cellAt fun _ _ _ => rfl).1
  have c3 := hg.fd.1.cell 3
  simp at c3
  have f3 := hg.fd.1.frozen 3
  have p0 := put_run w 0 1 (.func (.func 37) #[] #[]) rfl rfl
  have p1 := put_run w 1 2 (.func (.func 38) #[] #[]) rfl rfl
  have p2 := put_run w 2 3 (.func (.func 39) #[] #[]) rfl rfl
  have p3 := put_run w 3 4 (.func (.func 40) #[] #[]) rfl rfl
  have p4 := put_run w 4 5 (.func (.func 41) #[] #[]) rfl rfl
  have p5 := put_run w 5 6 (.func (.func 42) #[] #[]) rfl rfl
  have p6 := put_run w 6 7 (.func (.func 43) #[] #[]) rfl rfl
  have hfind : Instr.findNow (.int .i64) (.int .i64 m.K) (tabE 7).toList 0 = some none := by
    simp [tabE, Instr.findNow, Instr.sameNow, show (m.K == 1) = false from beq_eq_false_iff_ne.2 (by omega), show (m.K == 2) = false from beq_eq_false_iff_ne.2 (by omega), show (m.K == 3) = false from beq_eq_false_iff_ne.2 (by omega), show (m.K == 4) = false from beq_eq_false_iff_ne.2 (by omega), show (m.K == 5) = false from beq_eq_false_iff_ne.2 (by omega), show (m.K == 6) = false from beq_eq_false_iff_ne.2 (by omega), show (m.K == 7) = false from beq_eq_false_iff_ne.2 (by omega)]
  obtain ⟨v0, pl⟩ := miss_run w m.K hfind
  have hmm : ∀ t, (Instr.makeMap t none).run Try.prog w = .ok (.map (some w.heap.size)) (w.alloc (tabO 0)) := fun t => run_makeMap t w
  clear h hk hal hb hg hfind
  generalize m.K = z at *
  generalize tabO 0 = o0 at *
  generalize tabO 1 = o1 at *
  generalize tabO 2 = o2 at *
  generalize tabO 3 = o3 at *
  generalize tabO 4 = o4 at *
  generalize tabO 5 = o5 at *
  generalize tabO 6 = o6 at *
  generalize tabO 7 = o7 at *
  go_enter Try.func23, Try.ntmps23
  go_wp2
  refine bodyPost_ret (results_none rfl _ _ _) rfl ?_
  exact ⟨rfl, H.out.mono (B' := B + 500000) (by omega)⟩
theorem all_any (h : FS W fb mb Z B S m w) (hok : OkIn S.m.isRd m) (hB : B ≤ 100) :
    Calls Try.prog 23 #[.pointer (some ⟨fb, 0, none⟩)] w fun e w' => e = .returned (.tuple #[]) ∧ FS W fb mb Z (B + 500000) (allF S m).1 (allF S m).2 w' := by
  have hc : m.K = 1 ∨ m.K = 2 ∨ m.K = 3 ∨ m.K = 4 ∨ m.K = 5 ∨ m.K = 6 ∨ m.K = 7 ∨ (m.K < 1 ∨ 7 < m.K) := by omega
  rcases hc with hk | hk | hk | hk | hk | hk | hk | hk
  · exact all_1 h hok hk hB
  · exact all_2 h hok hk hB
  · exact all_3 h hok hk hB
  · exact all_4 h hok hk hB
  · exact all_5 h hok hk hB
  · exact all_6 h hok hk hB
  · exact all_7 h hok hk hB
  · exact all_no h hk
end
end Go.Proofs.Ytikimmhkfjaijaa
namespace Go.Proofs.Ytikimmhkfjaijaa
open Go.RowKit Reg Go.ChangeShapes

/-- v is read as the entries es; their kinds may be stored -/
def InE (w : World) (v : Value) (es : List En) : Prop :=
  ∃ a c, v = .slice a es.length c ∧ (es.length = 0 ∨ es.length ≤ c) ∧ es.length ≤ maxLen ∧ (∀ e ∈ es, wfE e) ∧ ∀ j, j < es.length → ∃ g off, a = some ⟨g, off, none⟩ ∧
    (∀ i, i < 4 → w.cell? ⟨g, off + j * 4 + i, none⟩ = (enL (es.getD j en0))[i]?) ∧ w.frozen? ⟨g, off + j * 4 + 1, none⟩ = false
theorem frozen_later {w w' : World} {p : Addr} {u : Value} (hb : Below w.heap.size w w') (hc : w.cell? p = some u) : w'.frozen? p = w.frozen? p :=
  World.frozen?_of_block (hb.block _ (World.block_lt_of_cell? w _ hc))
theorem enL_at (e : En) {i : Nat} (hi : i < 4) : ∃ u, (enL e)[i]? = some u := by
  have : i < (enL e).length := hi
  exact ⟨_, List.getElem?_eq_getElem this⟩
theorem InE.keep {w w' : World} {v : Value} {es : List En} (h : InE w v es) (hb : Below w.heap.size w w') : InE w' v es := by
  obtain ⟨a, c, h1, h2, h3, h4, h5⟩ := h
  refine ⟨a, c, h1, h2, h3, h4, fun j hj => ?_⟩
  obtain ⟨g, off, k1, k2, k3⟩ := h5 j hj
  refine ⟨g, off, k1, fun i hi => ?_, ?_⟩
  · obtain ⟨u, hu⟩ := enL_at (es.getD j en0) hi
    rw [hu]
    exact cell_later hb (by rw [k2 i hi, hu])
  · obtain ⟨u, hu⟩ := enL_at (es.getD j en0) (i := 1) (by decide)
    rw [frozen_later hb ((k2 1 (by decide)).trans hu)]
    exact k3
theorem InE.slice_ {w : World} {v : Value} {es : List En} (h : InE w v es) : ∃ a c, v = .slice a es.length c := by
  obtain ⟨a, c, h1, -⟩ := h
  exact ⟨a, c, h1⟩
theorem InC.slice_ {w : World} {v : Value} {cs : List Cg} (h : InC w v cs) : ∃ a c, v = .slice a cs.length c := by
  obtain ⟨a, c, h1, -⟩ := h
  exact ⟨a, c, h1⟩
theorem InG.slice_ {w : World} {v : Value} {gs : List Gd} (h : InG w v gs) : ∃ a c, v = .slice a gs.length c := by
  obtain ⟨a, c, h1, -⟩ := h.open_
  exact ⟨a, c, h1⟩
def i64 (x : Int) : Prop := (Lit.int .i64 x).wf = true
/-- all numbers are of their kinds -/
structure wfM (m : Ms) : Prop where
  K : i64 m.K
  T : u64 m.T
  P : i64 m.P
  PT : u64 m.PT
  C : i64 m.C
  M : i64 m.M
  S : i64 m.S
  E : u64 m.l.E
  B : i64 m.l.B
  n : i64 m.n
  la : wfG m.la
  ta : wfG m.ta
  N : i64 m.N
  p : wfPr m.p
/-- v is read as the message m -/
def InMs (w : World) (v : Value) (m : Ms) : Prop := ∃ se sl sc, v = .agg (msA m se sl sc) ∧ InE w se m.es ∧ InG w sl m.l.l ∧ InC w sc m.p.cs ∧ wfM m
theorem InMs.keep {w w' : World} {v : Value} {m : Ms} (h : InMs w v m) (hb : Below w.heap.size w w') : InMs w' v m := by
  obtain ⟨se, sl, sc, h1, h2, h3, h4, h5⟩ := h
  exact ⟨se, sl, sc, h1, h2.keep hb, h3.keep hb, h4.keep hb, h5⟩
section
variable {W w : World} {Z : Nat → Prop} {v : Value}
theorem InE.row {es : List En} {s : List UInt8} (h : InE w v es) (hZ : ∀ b, Z b → w.heap.size ≤ b) : ERow W Z (.lay s) es w v := by
  obtain ⟨a, c, h1, h2, h3, h4, h5⟩ := h
  refine ⟨⟨a, c, h1, h2, h3, fun j hj => ?_⟩, h4⟩
  obtain ⟨g, off, k1, k2, k3⟩ := h5 j hj
  have hlt : g < w.heap.size := by
    obtain ⟨u, hu⟩ := enL_at (es.getD j en0) (i := 0) (by decide)
    exact World.block_lt_of_cell? w _ ((k2 0 (by decide)).trans hu)
  refine ⟨g, off, k1, fun hz => by have := hZ g hz; omega, fun h => h, (fun h => by cases h), fun i hi => ⟨?_, fun hr => ?_⟩⟩
  · obtain ⟨u, hu⟩ := enL_at (es.getD j en0) hi
    exact ⟨u, hu, by rw [k2 i hi, hu]⟩
  · rcases hr with hr | hr
    · cases hr
    · have : i = 1 := by simpa [kindF] using hr
      subst this
      exact k3
theorem InG.row {gs : List Gd} {s : List UInt8} (h : InG w v gs) (hZ : ∀ b, Z b → w.heap.size ≤ b) : GRow W Z (.lay s) gs w v := by
  obtain ⟨⟨a, c, h1, h2⟩, h3, h4⟩ := h
  refine ⟨⟨a, c, h1, ?_, h3, fun j hj => ?_⟩, h4⟩
  · rcases h2 with rfl | ⟨h2, -⟩
    · exact .inl rfl
    · exact .inr h2
  · rcases h2 with rfl | ⟨-, g, off, k1, k2⟩
    · cases hj
    · have hc := cellsG_at gs j hj
      have hlt : g < w.heap.size := World.block_lt_of_cell? w _ (k2 _ _ hc.1)
      refine ⟨g, off, k1, fun hz => by have := hZ g hz; omega, fun h => h, (fun h => by cases h), fun i hi => ⟨?_, fun hr => ?_⟩⟩
      · match i, hi with
        | 0, _ => exact ⟨_, rfl, k2 _ _ hc.1⟩
        | 1, _ => exact ⟨_, rfl, k2 _ _ hc.2⟩
      · rcases hr with hr | hr <;> cases hr
theorem InC.row {p : Prt} (h : InC w v p.cs) (hp : wfPr p) (hZ : ∀ b, Z b → w.heap.size ≤ b) : CRow Z p w v := by
  refine ⟨h, fun hl b hb hz => ?_, hp⟩
  obtain ⟨a, c, h1, h2, h3⟩ := h
  obtain ⟨g, off, rfl, k1, -⟩ := h3 0 hl
  subst h1
  simp only [slB, Option.some.injEq] at hb
  subst hb
  exact absurd (World.block_lt_of_cell? w _ k1) (Nat.not_lt.2 (hZ _ hz))
end
def iK (q : Sf × Ms) : Sf × Ms := ((intF q.1 q.2.K).1, p_K q.2 (intF q.1 q.2.K).2)
theorem st_K (m : Ms) (v : Int) (se sl sc : Value) : (msA m se sl sc).setIfInBounds 0 (.int .i64 v) = msA (p_K m v) se sl sc := rfl
theorem FS.iK {W : World} {fb mb : Nat} {Z : Nat → Prop} {B : Nat} {w : World} {q : Sf × Ms} (h : FS W fb mb Z B q.1 q.2 w) (hx : in8 q.2.K) (hB : B ≤ 900000) :
    Calls Try.prog 22 #[.pointer (some ⟨fb, 0, none⟩), .slice (some ⟨w.heap.size, 0, none⟩) 1 1] (w.alloc (.cells #[.pointer (some ⟨mb, 0, none⟩)] 70)) fun e w' => e = .returned (.tuple #[]) ∧ FS W fb mb Z (B + 9) (iK q).1 (iK q).2 w' :=
  h.int (m' := p_K q.2 (intF q.1 q.2.K).2) 0 q.2.K hx (fun _ _ _ => rfl) (fun _ _ _ => st_K _ _ _ _ _) (p_K_es _ _) (by rw [p_K_l]) (p_K_p _ _) hB
/-- what is laid of a message -/
def layF (m : Ms) : Sf × Ms := allF (iK (⟨.lay [], false⟩, m)).1 (iK (⟨.lay [], false⟩, m)).2
theorem msA_one (m : Ms) (a1 a2 a3 : Option Addr) (n1 n2 n3 c1 c2 c3 : Nat) : ((msA m (.slice a1 n1 c1) (.slice a2 n2 c2) (.slice a3 n3 c3)).all fun x => x.oneCell') = true := by
  rw [← Array.all_toList]
  rfl
theorem msg_size (m : Ms) (se sl sc : Value) : (Try.prog.info? 33).map (·.size) = some (msA m se sl sc).size := by
  show _ = some 26
  kernel_rfl
theorem lay_start {w : World} {m : Ms} {se sl sc : Value} (h2 : InE w se m.es) (h3 : InG w sl m.l.l) (h4 : InC w sc m.p.cs) (h5 : wfM m) :
    FS w (w.heap.size + 1) w.heap.size (fun b => b = w.heap.size ∨ b = w.heap.size + 1) 0 ⟨.lay [], false⟩ m ((w.alloc (.cells (msA m se sl sc) 33)).alloc (.cells #[.pointer (some ⟨w.heap.size, 0, none⟩), .string ByteArray.empty, .pointer none, .bool false] 68)) := by
  have hb1 := (Below.refl w.heap.size w).alloc (Nat.le_refl _) (Obj.cells (msA m se sl sc) 33)
  have hs1 : (w.alloc (.cells (msA m se sl sc) 33)).heap.size = w.heap.size + 1 := by simp
  have hb2 := hb1.alloc hb1.size (Obj.cells #[.pointer (some ⟨w.heap.size, 0, none⟩), .string ByteArray.empty, .pointer none, .bool false] 68)
  have hm := (Blk.new w 33 (msA m se sl sc)).alloc (Obj.cells #[.pointer (some ⟨w.heap.size, 0, none⟩), .string ByteArray.empty, .pointer none, .bool false] 68)
  have hf := Blk.newAt (w := w.alloc (.cells (msA m se sl sc) 33)) 68 #[.pointer (some ⟨w.heap.size, 0, none⟩), .string ByteArray.empty, .pointer none, .bool false] hs1
  have hZ : ∀ b, (b = w.heap.size ∨ b = w.heap.size + 1) → w.heap.size ≤ b := fun b hb => by omega
  have hkp : Kp (fun b => b = w.heap.size ∨ b = w.heap.size + 1) w _ := Kp.of_below hb2
  have hkr := hkp
  exact ⟨hkp, ⟨hf, trivial, fun h => h⟩, fun b hb => by
      rcases hb with e | e
      · exact .inr e
      · exact e.elim, .inl rfl, fun b hb => by
      rcases hb with e | e
      · exact .inl e
      · exact .inr (.inl e), by omega, fun h => h, Nat.le_refl _, se, sl, sc, hm,
    ⟨(h2.row hZ).1.kp hkp (fun b hb e => hb e), (h2.row (W := w) (s := []) hZ).2⟩, ⟨(h3.row hZ).1.kp hkp (fun b hb e => hb e), (h3.row (W := w) (s := []) hZ).2⟩, (h4.row h5.p hZ).next hkp (fun b hb e => hb e)⟩
theorem Md.out_size (m : Md) : m.out.size ≤ m.sz := by
  cases m with
  | lay s => exact Nat.le_of_eq (size_strOf s)
  | rd r st => exact Nat.zero_le _
set_option maxRecDepth 100000 in
set_option maxHeartbeats 1000000 in
theorem laid_any (w : World) (v : Value) (m : Ms) (hv : InMs w v m) (hK : in8 m.K) (hok : OkIn false (iK (⟨.lay [], false⟩, m)).2) :
    Calls Try.prog 15 #[v] w fun e w' => e = .returned (.tuple #[.string (layF m).1.m.out, .bool (!(layF m).1.bad)]) ∧ Below w.heap.size w w' ∧ (layF m).1.m.out.size ≤ 1000000 := by
  obtain ⟨se, sl, sc, rfl, h2, h3, h4, h5⟩ := hv
  have h0 := lay_start h2 h3 h4 h5
  obtain ⟨a1, c1, e1⟩ := h2.slice_
  obtain ⟨a2, c2, e2⟩ := h3.slice_
  obtain ⟨a3, c3, e3⟩ := h4.slice_
  have hm1 : ((msA m se sl sc).all fun x => x.oneCell') = true := by rw [e1, e2, e3]; exact msA_one _ _ _ _ _ _ _ _ _ _
  have hm2 := msg_size m se sl sc
  obtain ⟨q0, hq0⟩ : ∃ q0 : Sf × Ms, q0 = (⟨.lay [], false⟩, m) := ⟨_, rfl⟩
  obtain ⟨q1, hq1⟩ : ∃ q1, q1 = iK q0 := ⟨_, rfl⟩
  obtain ⟨q2, hq2⟩ : ∃ q2, q2 = allF q1.1 q1.2 := ⟨_, rfl⟩
  have hfin : layF m = q2 := by rw [layF, hq2, hq1, hq0]
  have hrd : q2.1.m.isRd = false → True := fun _ => trivial
  obtain ⟨os, hos⟩ : ∃ os, os = q2.1.m.out := ⟨_, rfl⟩
  obtain ⟨bd, hbd⟩ : ∃ bd, bd = q2.1.bad := ⟨_, rfl⟩
  rw [hfin, ← hos, ← hbd]
  have HOS := Lib.hid hos
  have HBD := Lib.hid hbd
  rw [← hq0, ← hq1] at hok
  have h0' : FS w (w.heap.size + 1) w.heap.size (fun b => b = w.heap.size ∨ b = w.heap.size + 1) 0 q0.1 q0.2 ((w.alloc (.cells (msA m se sl sc) 33)).alloc (.cells #[.pointer (some ⟨w.heap.size, 0, none⟩), .string ByteArray.empty, .pointer none, .bool false] 68)) := by rw [hq0]; exact h0
  have hs2 : ((w.alloc (.cells (msA m se sl sc) 33)).alloc (.cells #[.pointer (some ⟨w.heap.size, 0, none⟩), .string ByteArray.empty, .pointer none, .bool false] 68)).heap.size = w.heap.size + 1 + 1 := by simp
  have H1 := h0'.iK (by rw [hq0]; exact hK) (by decide)
  rw [← hq1, hs2] at H1
  replace H1 := Lib.hid H1
  have hrd1 : q1.1.m.isRd = false := by rw [hq1, hq0]; rfl
  have H2 := Lib.hid (fun w2 (h : FS w (w.heap.size + 1) w.heap.size (fun b => b = w.heap.size ∨ b = w.heap.size + 1) (0 + 9) q1.1 q1.2 w2) => all_any h (by rw [hrd1]; exact hok) (by decide))
  rw [← hq2] at H2
  have c0 := h0.slots
  have HM1 := Lib.hid hm1
  have HM2 := Lib.hid hm2
  clear hos hbd hs2 hfin hrd hrd1 h0 h0' h2 h3 h4 h5 hK hok e1 e2 e3 hm1 hm2 hq1 hq2 hq0
  generalize msA m se sl sc = ma at *
  go_enter Try.func15, Try.ntmps15
  go_wp2_with fail
  refine H1.out.mono ?_
  rintro e w1 ⟨rfl, h1⟩
  have d1 := h1.slots
  have G1 := Lib.hid h1
  clear h1 c0
  go_wp2_with fail
  refine (H2.out w1 G1.out).mono ?_
  rintro e w2 ⟨rfl, h2⟩
  have c1 : w2.cell? ⟨w.heap.size + 1, 1, none⟩ = some (.string q2.1.m.out) := by rw [h2.fd.1.cell]; rfl
  have c3 : w2.cell? ⟨w.heap.size + 1, 3, none⟩ = some (.bool q2.1.bad) := by rw [h2.fd.1.cell]; rfl
  have HB := Lib.hid (h2.kp.below (B := w.heap.size) (fun b hb => by omega) (Nat.le_refl _))
  have HOZ : Hid (os.size ≤ 1000000) := Lib.hid (by rw [HOS.out]; have h5 := h2.sz; exact Nat.le_trans (Md.out_size _) (by omega))
  clear d1 G1 h2
  rw [← HOS.out] at c1
  rw [← HBD.out] at c3
  go_wp2_with fail
  go_quiet (fail)
  go_wp2
  go_ret2
  exact ⟨rfl, below_drewN HB.out _, HOZ.out⟩
end Go.Proofs.Ytikimmhkfjaijaa
namespace Go.Proofs.Ytikimmhkfjaijaa
open Go.RowKit Reg Go.ChangeShapes

/-! ### another reader's block -/
def rnM (r : Nat) : Md → Md
  | .lay s => .lay s
  | .rd _ st => .rd r st
def rn (r : Nat) (S : Sf) : Sf := ⟨rnM r S.m, S.bad⟩
theorem numF_rn (r : Nat) (m : Md) (n : Nat) : numF (rnM r m) n = (rnM r (numF m n).1, (numF m n).2) := by cases m <;> rfl
theorem rn_isRd (r : Nat) (S : Sf) : (rn r S).m.isRd = S.m.isRd := by
  obtain ⟨m, b⟩ := S
  cases m <;> rfl
theorem rnM_isRd (r : Nat) (m : Md) : (rnM r m).isRd = m.isRd := by cases m <;> rfl
theorem intF_rn (r : Nat) (S : Sf) (x : Int) : intF (rn r S) x = (rn r (intF S x).1, (intF S x).2) := by
  unfold intF rn
  simp only [numF_rn]
theorem numS_rn (r : Nat) (S : Sf) (x : Int) : numS (rn r S) x = (rn r (numS S x).1, (numS S x).2) := by
  unfold numS rn
  simp only [numF_rn]
theorem stF_rn (r : Nat) (S : Sf) (x : Int) : stF (rn r S) x = (rn r (stF S x).1, (stF S x).2) := by
  unfold stF rn
  simp only [numF_rn]
theorem yesF_rn (r : Nat) (S : Sf) (b : Bool) : yesF (rn r S) b = (rn r (yesF S b).1, (yesF S b).2) := by
  unfold yesF
  simp only [intF_rn]
  rfl
theorem gdF_rn (r : Nat) (S : Sf) (a b : Nat) : gdF (rn r S) a b = (rn r (gdF S a b).1, (gdF S a b).2) := by
  unfold gdF rn
  simp only [numF_rn]
theorem gdS_rn (r : Nat) (S : Sf) (g : Gd) : gdS (rn r S) g = (rn r (gdS S g).1, (gdS S g).2) := by
  unfold gdS
  simp only [gdF_rn]
theorem enS_rn (r : Nat) (S : Sf) (e : En) : enS (rn r S) e = (rn r (enS S e).1, (enS S e).2) := by
  unfold enS
  simp only [numS_rn, intF_rn, gdS_rn]
theorem gLp_rn (r : Nat) (S : Sf) (l : List Gd) : ∀ k, gLp (rn r S) l k = (rn r (gLp S l k).1, (gLp S l k).2)
  | 0 => rfl
  | k + 1 => by
    unfold gLp
    rw [gLp_rn r S l k]
    simp only [gdS_rn]
theorem eLp_rn (r : Nat) (S : Sf) (l : List En) : ∀ k, eLp (rn r S) l k = (rn r (eLp S l k).1, (eLp S l k).2)
  | 0 => rfl
  | k + 1 => by
    unfold eLp
    rw [eLp_rn r S l k]
    simp only [enS_rn]
theorem freshF_rn (r : Nat) (S : Sf) (k : Nat) : freshF (rn r S) k = freshF S k := by
  unfold freshF
  rw [rn_isRd, intF_rn]
  rfl
theorem szN_rn (r : Nat) (S : Sf) (k : Nat) : szN (rn r S) k = szN S k := by
  unfold szN
  rw [intF_rn]
theorem szG_rn (r : Nat) (S : Sf) (l : List Gd) : szG (rn r S) l = szG S l := by
  unfold szG
  rw [freshF_rn, szN_rn]
theorem szE_rn (r : Nat) (S : Sf) (l : List En) : szE (rn r S) l = szE S l := by
  unfold szE
  rw [freshF_rn, szN_rn]
theorem lineF_rn (r : Nat) (S : Sf) (m : Ms) : lineF (rn r S) m = (rn r (lineF S m).1, (lineF S m).2) := by
  unfold lineF
  simp only [numS_rn, intF_rn, yesF_rn, szG_rn, gLp_rn]
theorem entF_rn (r : Nat) (S : Sf) (m : Ms) : entF (rn r S) m = (rn r (entF S m).1, (entF S m).2) := by
  unfold entF
  simp only [intF_rn, szE_rn, eLp_rn]
theorem partF_rn (r : Nat) (S : Sf) (m : Ms) : partF (rn r S) m = (rn r (partF S m).1, (partF S m).2) := by
  obtain ⟨md, b⟩ := S
  cases md <;> rfl
def rq (r : Nat) (q : Sf × Ms) : Sf × Ms := (rn r q.1, q.2)
theorem iT_rn (r : Nat) (q : Sf × Ms) : iT (rq r q) = rq r (iT q) := by
  unfold iT rq
  simp only [numS_rn]
theorem iP_rn (r : Nat) (q : Sf × Ms) : iP (rq r q) = rq r (iP q) := by
  unfold iP rq
  simp only [intF_rn]
theorem iPT_rn (r : Nat) (q : Sf × Ms) : iPT (rq r q) = rq r (iPT q) := by
  unfold iPT rq
  simp only [numS_rn]
theorem iY_rn (r : Nat) (q : Sf × Ms) : iY (rq r q) = rq r (iY q) := by
  unfold iY rq
  simp only [yesF_rn]
theorem iC_rn (r : Nat) (q : Sf × Ms) : iC (rq r q) = rq r (iC q) := by
  unfold iC rq
  simp only [intF_rn]
theorem iM_rn (r : Nat) (q : Sf × Ms) : iM (rq r q) = rq r (iM q) := by
  unfold iM rq
  simp only [intF_rn]
theorem iL_rn (r : Nat) (q : Sf × Ms) : iL (rq r q) = rq r (iL q) := by
  unfold iL rq
  simp only [intF_rn]
theorem iN_rn (r : Nat) (q : Sf × Ms) : iN (rq r q) = rq r (iN q) := by
  unfold iN rq
  simp only [intF_rn]
theorem iS_rn (r : Nat) (q : Sf × Ms) : iS (rq r q) = rq r (iS q) := by
  unfold iS rq
  simp only [stF_rn]
theorem iLa_rn (r : Nat) (q : Sf × Ms) : iLa (rq r q) = rq r (iLa q) := by
  unfold iLa rq
  simp only [gdS_rn]
theorem iTa_rn (r : Nat) (q : Sf × Ms) : iTa (rq r q) = rq r (iTa q) := by
  unfold iTa rq
  simp only [gdS_rn]
theorem iK_rn (r : Nat) (q : Sf × Ms) : iK (rq r q) = rq r (iK q) := by
  unfold iK rq
  simp only [intF_rn]
theorem rq_eq (r : Nat) (S : Sf) (m : Ms) : (rn r S, m) = rq r (S, m) := rfl
theorem askF_rn (r : Nat) (S : Sf) (m : Ms) : askF (rn r S) m = rq r (askF S m) := by
  unfold askF
  rw [rq_eq, iT_rn, iP_rn, iPT_rn]
theorem voteF_rn (r : Nat) (S : Sf) (m : Ms) : voteF (rn r S) m = rq r (voteF S m) := by
  unfold voteF
  rw [rq_eq, iT_rn, iY_rn]
theorem lineF_rq (r : Nat) (S : Sf) (m : Ms) : lineF (rn r S) m = rq r (lineF S m) := lineF_rn r S m
theorem entF_rq (r : Nat) (q : Sf × Ms) : entF (rq r q).1 (rq r q).2 = rq r (entF q.1 q.2) := entF_rn r q.1 q.2
theorem partF_rq (r : Nat) (q : Sf × Ms) : partF (rq r q).1 (rq r q).2 = rq r (partF q.1 q.2) := partF_rn r q.1 q.2
theorem allF_rn (r : Nat) (S : Sf) (m : Ms) : allF (rn r S) m = rq r (allF S m) := by
  unfold allF
  split; · exact askF_rn r S m
  split; · exact voteF_rn r S m
  split; · unfold appendsF; rw [askF_rn, entF_rq, iC_rn, iS_rn]
  split; · unfold appendedF; rw [voteF_rn, iM_rn, iS_rn]
  split; · unfold pullF; rw [lineF_rq, iL_rn, iLa_rn, iTa_rn, iN_rn]
  split; · unfold partedF; rw [lineF_rq, partF_rq]
  split; · exact lineF_rq r S m
  rfl
/-! ### of the same kind -/
theorem alike_yes (S : Sf) (b : Bool) : Alike S (yesF S b).1 := alike_num S (b01 b) _
theorem gLp_alike (S : Sf) (l : List Gd) : ∀ k, Alike S (gLp S l k).1
  | 0 => Alike.refl S
  | k + 1 => (gLp_alike S l k).trans (alike_gd _ _)
theorem enS_alike (S : Sf) (e : En) : Alike S (enS S e).1 := (alike_num S _ S.bad).trans ((alike_num _ _ _).trans (alike_gd _ _))
theorem eLp_alike (S : Sf) (l : List En) : ∀ k, Alike S (eLp S l k).1
  | 0 => Alike.refl S
  | k + 1 => (eLp_alike S l k).trans (enS_alike _ _)
theorem lineF_alike (S : Sf) (m : Ms) : Alike S (lineF S m).1 := (alike_num S _ S.bad).trans ((alike_num _ _ _).trans ((alike_yes _ _).trans ((alike_num _ _ _).trans (gLp_alike _ _ _))))
theorem entF_alike (S : Sf) (m : Ms) : Alike S (entF S m).1 := (alike_num S _ _).trans (eLp_alike _ _ _)
theorem partF_alike (S : Sf) (m : Ms) : Alike S (partF S m).1 := by
  obtain ⟨md, b⟩ := S
  cases md <;> exact ⟨rfl, rfl, rfl⟩
theorem iT_alike (q : Sf × Ms) : Alike q.1 (iT q).1 := alike_num _ _ _
theorem iP_alike (q : Sf × Ms) : Alike q.1 (iP q).1 := alike_num _ _ _
theorem iPT_alike (q : Sf × Ms) : Alike q.1 (iPT q).1 := alike_num _ _ _
theorem iY_alike (q : Sf × Ms) : Alike q.1 (iY q).1 := alike_yes _ _
theorem iC_alike (q : Sf × Ms) : Alike q.1 (iC q).1 := alike_num _ _ _
theorem iM_alike (q : Sf × Ms) : Alike q.1 (iM q).1 := alike_num _ _ _
theorem iL_alike (q : Sf × Ms) : Alike q.1 (iL q).1 := alike_num _ _ _
theorem iN_alike (q : Sf × Ms) : Alike q.1 (iN q).1 := alike_num _ _ _
theorem iS_alike (q : Sf × Ms) : Alike q.1 (iS q).1 := alike_num _ _ _
theorem iLa_alike (q : Sf × Ms) : Alike q.1 (iLa q).1 := alike_gd _ _
theorem iTa_alike (q : Sf × Ms) : Alike q.1 (iTa q).1 := alike_gd _ _
theorem iK_alike (q : Sf × Ms) : Alike q.1 (iK q).1 := alike_num _ _ _
theorem askF_alike (S : Sf) (m : Ms) : Alike S (askF S m).1 := (iT_alike (S, m)).trans ((iP_alike _).trans (iPT_alike _))
theorem voteF_alike (S : Sf) (m : Ms) : Alike S (voteF S m).1 := (iT_alike (S, m)).trans (iY_alike _)
theorem allF_alike (S : Sf) (m : Ms) : Alike S (allF S m).1 := by
  unfold allF
  split; · exact askF_alike S m
  split; · exact voteF_alike S m
  split; · exact (askF_alike S m).trans ((entF_alike _ _).trans ((iC_alike _).trans (iS_alike _)))
  split; · exact (voteF_alike S m).trans ((iM_alike _).trans (iS_alike _))
  split; · exact (lineF_alike S m).trans ((iL_alike _).trans ((iLa_alike _).trans ((iTa_alike _).trans (iN_alike _))))
  split; · exact (lineF_alike S m).trans (partF_alike _ _)
  split; · exact lineF_alike S m
  exact ⟨rfl, rfl, rfl⟩
/-! ### numbers stay of their kinds -/
theorem u64_num {S : Sf} {x : Int} (h : u64 x) : u64 (numS S x).2 := by
  obtain ⟨n, rfl, hn⟩ := u64_nat h
  exact nat_u64 (numF_lt _ _ hn)
theorem i64_int (S : Sf) (x : Int) : i64 (intF S x).2 := RowKit.wrap64_wf _
theorem i64_st (S : Sf) (x : Int) : i64 (stF S x).2 := RowKit.wrap64_wf _
theorem wfM.K_ {m : Ms} (h : wfM m) {v : Int} (hv : i64 v) : wfM (p_K m v) := ⟨hv, h.T, h.P, h.PT, h.C, h.M, h.S, h.E, h.B, h.n, h.la, h.ta, h.N, h.p⟩
theorem wfM.T_ {m : Ms} (h : wfM m) {v : Int} (hv : u64 v) : wfM (p_T m v) := ⟨h.K, hv, h.P, h.PT, h.C, h.M, h.S, h.E, h.B, h.n, h.la, h.ta, h.N, h.p⟩
theorem wfM.P_ {m : Ms} (h : wfM m) {v : Int} (hv : i64 v) : wfM (p_P m v) := ⟨h.K, h.T, hv, h.PT, h.C, h.M, h.S, h.E, h.B, h.n, h.la, h.ta, h.N, h.p⟩
theorem wfM.PT_ {m : Ms} (h : wfM m) {v : Int} (hv : u64 v) : wfM (p_PT m v) := ⟨h.K, h.T, h.P, hv, h.C, h.M, h.S, h.E, h.B, h.n, h.la, h.ta, h.N, h.p⟩
theorem wfM.C_ {m : Ms} (h : wfM m) {v : Int} (hv : i64 v) : wfM (p_C m v) := ⟨h.K, h.T, h.P, h.PT, hv, h.M, h.S, h.E, h.B, h.n, h.la, h.ta, h.N, h.p⟩
theorem wfM.M_ {m : Ms} (h : wfM m) {v : Int} (hv : i64 v) : wfM (p_M m v) := ⟨h.K, h.T, h.P, h.PT, h.C, hv, h.S, h.E, h.B, h.n, h.la, h.ta, h.N, h.p⟩
theorem wfM.S_ {m : Ms} (h : wfM m) {v : Int} (hv : i64 v) : wfM (p_S m v) := ⟨h.K, h.T, h.P, h.PT, h.C, h.M, hv, h.E, h.B, h.n, h.la, h.ta, h.N, h.p⟩
theorem wfM.n_ {m : Ms} (h : wfM m) {v : Int} (hv : i64 v) : wfM (p_n m v) := ⟨h.K, h.T, h.P, h.PT, h.C, h.M, h.S, h.E, h.B, hv, h.la, h.ta, h.N, h.p⟩
theorem wfM.la_ {m : Ms} (h : wfM m) {v : Gd} (hv : wfG v) : wfM (p_la m v) := ⟨h.K, h.T, h.P, h.PT, h.C, h.M, h.S, h.E, h.B, h.n, hv, h.ta, h.N, h.p⟩
theorem wfM.ta_ {m : Ms} (h : wfM m) {v : Gd} (hv : wfG v) : wfM (p_ta m v) := ⟨h.K, h.T, h.P, h.PT, h.C, h.M, h.S, h.E, h.B, h.n, h.la, hv, h.N, h.p⟩
theorem wfM.N_ {m : Ms} (h : wfM m) {v : Int} (hv : i64 v) : wfM (p_N m v) := ⟨h.K, h.T, h.P, h.PT, h.C, h.M, h.S, h.E, h.B, h.n, h.la, h.ta, hv, h.p⟩
theorem wfM.p_ {m : Ms} (h : wfM m) {v : Prt} (hv : wfPr v) : wfM (p_p m v) := ⟨h.K, h.T, h.P, h.PT, h.C, h.M, h.S, h.E, h.B, h.n, h.la, h.ta, h.N, hv⟩
theorem wfM.l_ {m : Ms} (h : wfM m) {v : Ln} (hv : u64 v.E ∧ i64 v.B) : wfM (p_l m v) := ⟨h.K, h.T, h.P, h.PT, h.C, h.M, h.S, hv.1, hv.2, h.n, h.la, h.ta, h.N, h.p⟩
theorem wfM.Y_ {m : Ms} (h : wfM m) (v : Bool) : wfM (p_Y m v) := ⟨h.K, h.T, h.P, h.PT, h.C, h.M, h.S, h.E, h.B, h.n, h.la, h.ta, h.N, h.p⟩
theorem wfM.es_ {m : Ms} (h : wfM m) (v : List En) : wfM (p_es m v) := ⟨h.K, h.T, h.P, h.PT, h.C, h.M, h.S, h.E, h.B, h.n, h.la, h.ta, h.N, h.p⟩
theorem iT_wf {q : Sf × Ms} (h : wfM q.2) : wfM (iT q).2 := h.T_ (u64_num h.T)
theorem iP_wf {q : Sf × Ms} (h : wfM q.2) : wfM (iP q).2 := h.P_ (i64_int _ _)
theorem iPT_wf {q : Sf × Ms} (h : wfM q.2) : wfM (iPT q).2 := h.PT_ (u64_num h.PT)
theorem iY_wf {q : Sf × Ms} (h : wfM q.2) : wfM (iY q).2 := h.Y_ _
theorem iC_wf {q : Sf × Ms} (h : wfM q.2) : wfM (iC q).2 := h.C_ (i64_int _ _)
theorem iM_wf {q : Sf × Ms} (h : wfM q.2) : wfM (iM q).2 := h.M_ (i64_int _ _)
theorem iL_wf {q : Sf × Ms} (h : wfM q.2) : wfM (iL q).2 := h.n_ (i64_int _ _)
theorem iN_wf {q : Sf × Ms} (h : wfM q.2) : wfM (iN q).2 := h.N_ (i64_int _ _)
theorem iS_wf {q : Sf × Ms} (h : wfM q.2) : wfM (iS q).2 := h.S_ (i64_st _ _)
theorem iLa_wf {q : Sf × Ms} (h : wfM q.2) : wfM (iLa q).2 := h.la_ (gdS_wf h.la)
theorem iTa_wf {q : Sf × Ms} (h : wfM q.2) : wfM (iTa q).2 := h.ta_ (gdS_wf h.ta)
theorem iK_wf {q : Sf × Ms} (h : wfM q.2) : wfM (iK q).2 := h.K_ (i64_int _ _)
theorem lineF_wf {q : Sf × Ms} (h : wfM q.2) : wfM (lineF q.1 q.2).2 := by
  have e : (lineF q.1 q.2).2 = p_l q.2 (lineF q.1 q.2).2.l := rfl
  rw [e]
  exact h.l_ ⟨u64_num h.E, i64_int _ _⟩
theorem entF_wf {q : Sf × Ms} (h : wfM q.2) : wfM (entF q.1 q.2).2 := by rw [entF_2]; exact h.es_ _
theorem decP_wf (s : ByteArray) : wfPr (decP 9 2 s) := by
  unfold decP
  split
  · exact read_wf 9 2 _ (by decide)
  · exact zero_wf
theorem partF_wf {q : Sf × Ms} (h : wfM q.2) : wfM (partF q.1 q.2).2 := by
  obtain ⟨⟨md, b⟩, m⟩ := q
  cases md with
  | lay s => exact h
  | rd r st => exact wfM.p_ (m := m) h (decP_wf _)
theorem askF_wf {q : Sf × Ms} (h : wfM q.2) : wfM (askF q.1 q.2).2 := iPT_wf (iP_wf (iT_wf (q := (q.1, q.2)) h))
theorem voteF_wf {q : Sf × Ms} (h : wfM q.2) : wfM (voteF q.1 q.2).2 := iY_wf (iT_wf (q := (q.1, q.2)) h)
theorem allF_wf {q : Sf × Ms} (h : wfM q.2) : wfM (allF q.1 q.2).2 := by
  unfold allF
  split; · exact askF_wf h
  split; · exact voteF_wf h
  split; · exact iS_wf (iC_wf (entF_wf (askF_wf h)))
  split; · exact iS_wf (iM_wf (voteF_wf h))
  split; · exact iN_wf (iTa_wf (iLa_wf (iL_wf (lineF_wf h))))
  split; · exact partF_wf (lineF_wf h)
  split; · exact lineF_wf h
  exact h
/-! ### reading, plainly -/
def zeroM : Ms := ⟨0, 0, 0, 0, [], 0, false, 0, 0, ⟨0, 0, false, []⟩, 0, (0, 0), (0, 0), 0, zeroP⟩
theorem zeroM_wf : wfM zeroM := ⟨rfl, rfl, rfl, rfl, rfl, rfl, rfl, rfl, rfl, rfl, ⟨rfl, rfl⟩, ⟨rfl, rfl⟩, rfl, zero_wf⟩
def rdF (r : Nat) (l : List UInt8) : Sf × Ms := allF (iK (⟨.rd r (some l), false⟩, zeroM)).1 (iK (⟨.rd r (some l), false⟩, zeroM)).2
theorem rdF_rn (r : Nat) (l : List UInt8) : rdF r l = rq r (rdF 0 l) := by
  unfold rdF
  have e : (⟨.rd r (some l), false⟩, zeroM) = rq r (⟨.rd 0 (some l), false⟩, zeroM) := rfl
  rw [e, iK_rn]
  generalize iK (⟨.rd 0 (some l), false⟩, zeroM) = X
  exact allF_rn r X.1 X.2
def Md.left : Md → Wire.St
  | .lay _ => none
  | .rd _ st => st
def sndM (q : Sf × Ms) : Ms := q.2
def okQ (q : Sf × Ms) : Bool := !q.1.bad && endB q.1.m.left
def readM (l : List UInt8) : Ms := sndM (rdF 0 l)
def readOk (l : List UInt8) : Bool := okQ (rdF 0 l)
theorem readM_of {l : List UInt8} {X : Sf × Ms} (h : rdF 0 l = X) : readM l = X.2 := by
  rw [← show sndM X = X.2 from rfl, ← h]
  rfl
theorem readOk_of {l : List UInt8} {X : Sf × Ms} (h : rdF 0 l = X) : readOk l = (!X.1.bad && endB X.1.m.left) := by
  rw [← show okQ X = (!X.1.bad && endB X.1.m.left) from rfl, ← h]
  rfl
theorem rdF_of {r : Nat} {l : List UInt8} {X : Sf × Ms} (h : iK (⟨.rd r (some l), false⟩, zeroM) = X) : rdF r l = allF X.1 X.2 := by
  rw [← h]
  rfl
theorem readM_wf (l : List UInt8) : wfM (readM l) := by
  have h : wfM (iK (⟨.rd 0 (some l), false⟩, zeroM)).2 := iK_wf (q := (⟨.rd 0 (some l), false⟩, zeroM)) zeroM_wf
  obtain ⟨X, hX⟩ : ∃ X, iK (⟨.rd 0 (some l), false⟩, zeroM) = X := ⟨_, rfl⟩
  rw [hX] at h
  rw [readM_of (rdF_of hX)]
  exact allF_wf h
end Go.Proofs.Ytikimmhkfjaijaa
namespace Go.Proofs.Ytikimmhkfjaijaa
open Go.RowKit Reg Go.ChangeShapes

set_option maxHeartbeats 400000 in
theorem newReader2_any (s : ByteArray) (w : World) (hs : s.size ≤ 1152921504606846976) :
    Calls Try.prog 24 #[.string s] w fun e w' => ∃ r, e = .returned (.pointer (some ⟨r, 0, none⟩)) ∧ w.heap.size < r ∧ Rdr w' r (some s.data.toList) ∧ Below w.heap.size w w' := by
  obtain ⟨cap, w1, hcv, hcap, hsz, hb, hcell, hfr⟩ := bytes_of_list (P := Try.prog) w 9 47 5 s s.data.toList rfl Try.underlying9 Try.underlying47 Try.underlying5
  have HC := Lib.hid hcell
  have HB := Lib.hid hb
  have HS : Hid (s.data.toList.length ≤ 1152921504606846976) := by rw [len_data]; exact hs
  have HCAP := Lib.hid hcap
  have HSZ := Lib.hid hsz
  clear hcell hfr hb hs hcap
  generalize s.data.toList = l at *
  go_enter Try.func24, Try.ntmps24
  go_wp2
  go_ret
  refine ⟨w.heap.size + 1, rfl, by omega, ⟨w.heap.size, 0, cap, Blk.newAt _ _ HSZ.out, by omega, HCAP.out, HS.out, fun j u hu => ?_⟩, HB.out.alloc HB.out.size _⟩
  have hj : j < l.length := by
    rcases Nat.lt_or_ge j l.length with q | q
    · exact q
    · rw [List.getElem?_eq_none (by simpa using q)] at hu; cases hu
  have h1 := HC.out j hj
  rw [Nat.zero_add, World.cell?_alloc_lt _ _ _ (by have := HSZ.out; simp; omega), h1]
  simp [hj, vb] at hu ⊢
  exact hu

set_option maxHeartbeats 400000 in
theorem ok_any (r : Nat) (st : Wire.St) (w : World) (h : Rdr w r st) : Calls Try.prog 44 #[.pointer (some ⟨r, 0, none⟩)] w fun e w' => e = .returned (.bool (okB st)) ∧ w = w' := by
  cases st with
  | none =>
    obtain ⟨v, b⟩ := h
    have c1 : w.cell? ⟨r, 1, none⟩ = some (.bool true) := b.cell 1
    clear b
    go_enter Try.func44, Try.ntmps44
    go_wp2
    go_ret
    exact ⟨rfl, rfl⟩
  | some l =>
    obtain ⟨g, off, c, b, _⟩ := h
    have c1 : w.cell? ⟨r, 1, none⟩ = some (.bool false) := b.cell 1
    clear b
    go_enter Try.func44, Try.ntmps44
    go_wp2
    go_ret
    exact ⟨rfl, rfl⟩
set_option maxHeartbeats 400000 in
theorem end_any (r : Nat) (st : Wire.St) (w : World) (h : Rdr w r st) : Calls Try.prog 25 #[.pointer (some ⟨r, 0, none⟩)] w fun e w' => e = .returned (.bool (endB st)) ∧ w = w' := by
  have hok := ok_any r st w h
  cases st with
  | none =>
    go_enter Try.func25, Try.ntmps25
    go_wp2_with fail
    refine hok.mono ?_
    rintro e w1 ⟨rfl, rfl⟩
    clear hok
    have hz : okB none = false := rfl
    go_wp2
    go_ret
    exact ⟨rfl, rfl⟩
  | some l =>
    obtain ⟨g, off, c, b, _⟩ := h
    have c1 : w.cell? ⟨r, 0, none⟩ = some (.slice (some ⟨g, off, none⟩) l.length c) := b.cell 0
    clear b
    have hz : okB (some l) = true := rfl
    have hl : ((l.length : Int) == 0) = endB (some l) := by
      cases l with
      | nil => rfl
      | cons b l => simp [endB]; omega
    have HOK := Lib.hid hok
    clear hok
    generalize endB (some l) = x at *
    go_enter Try.func25, Try.ntmps25
    go_wp2_with fail
    refine HOK.out.mono ?_
    rintro e w1 ⟨rfl, rfl⟩
    go_wp2
    go_ret
    exact ⟨rfl, rfl⟩

/-! ### what has been read is a message in memory -/
theorem RowsM.widen {W : World} {Z A : Nat → Prop} {md : Md} {size n : Nat} {fz : Nat → Bool} {R : Nat → List Value} {w : World} {v : Value} (h : RowsM W Z md size n fz R w v) (hr : md.isRd = true) (hA : ∀ b, A b → b < W.heap.size) : RowsM W (fun b => Z b ∨ A b) md size n fz R w v := by
  obtain ⟨a, c, h1, h2, h3, h4⟩ := h
  refine ⟨a, c, h1, h2, h3, fun j hj => ?_⟩
  obtain ⟨g, off, k1, k2, k3, k4, k5⟩ := h4 j hj
  exact ⟨g, off, k1, fun hz => hz.elim k2 fun ha => by have := hA g ha; have := k4 hr; omega, k3, k4, k5⟩
theorem ERow.ine {W : World} {Z : Nat → Prop} {md : Md} {es : List En} {w : World} {v : Value} (h : ERow W Z md es w v) (hr : md.isRd = true) : InE w v es := by
  obtain ⟨⟨a, c, h1, h2, h3, h4⟩, h5⟩ := h
  refine ⟨a, c, h1, h2, h3, h5, fun j hj => ?_⟩
  obtain ⟨g, off, k1, k2, k3, k4, k5⟩ := h4 j hj
  refine ⟨g, off, k1, fun i hi => ?_, (k5 1 (by decide)).2 (.inl hr)⟩
  obtain ⟨⟨u, e1, e2⟩, -⟩ := k5 i hi
  rw [e2, e1]
theorem cellsG_get (gs : List Gd) {j : Nat} (hj : j < (cellsG gs).length) : (cellsG gs)[j]? = (gdL (gs.getD (j / 2) (0, 0)))[j % 2]? := by
  rw [cellsG_length] at hj
  have h2 := cellsG_at gs (j / 2) (by omega)
  have hc : j % 2 = 0 ∨ j % 2 = 1 := by omega
  rcases hc with hc | hc
  · have e : j = j / 2 * 2 := by omega
    have h3 := h2.1
    rw [← e] at h3
    rw [h3, hc]
    rfl
  · have e : j = j / 2 * 2 + 1 := by omega
    have h3 := h2.2
    rw [← e] at h3
    rw [h3, hc]
    rfl
theorem GRow.ing {W : World} {Z : Nat → Prop} {md : Md} {gs : List Gd} {w : World} {v : Value} (h : GRow W Z md gs w v) : InG w v gs := by
  obtain ⟨⟨a, c, h1, h2, h3, h4⟩, h5⟩ := h
  refine ⟨⟨a, c, h1, ?_⟩, h3, h5⟩
  rcases Nat.eq_zero_or_pos gs.length with h0 | hp
  · exact .inl (List.length_eq_zero_iff.1 h0)
  · obtain ⟨g, off, rfl, -⟩ := h4 0 hp
    refine .inr ⟨by omega, g, off, rfl, fun j u hu => ?_⟩
    have hj : j < (cellsG gs).length := by
      rcases Nat.lt_or_ge j (cellsG gs).length with q | q
      · exact q
      · rw [List.getElem?_eq_none q] at hu; cases hu
    rw [cellsG_get gs hj] at hu
    rw [cellsG_length] at hj
    obtain ⟨g', off', e, -, -, -, k5⟩ := h4 (j / 2) (by omega)
    simp only [Option.some.injEq, Addr.mk.injEq, and_true] at e
    obtain ⟨rfl, rfl⟩ := e
    obtain ⟨⟨u', e1, e2⟩, -⟩ := k5 (j % 2) (by omega)
    rw [e1] at hu
    obtain rfl := Option.some.inj hu
    rw [← e2]
    congr 2
    omega
def noStr : Value → Bool
  | .string _ => false
  | _ => true
theorem msA_noStr (m : Ms) (a1 a2 a3 : Option Addr) (n1 n2 n3 c1 c2 c3 : Nat) : ((msA m (.slice a1 n1 c1) (.slice a2 n2 c2) (.slice a3 n3 c3)).all noStr) = true := by
  rw [← Array.all_toList]
  rfl
theorem not_str {cs : Array Value} (h : cs.all noStr = true) {i : Nat} {s : ByteArray} : cs[i]? ≠ some (.string s) := by
  intro e
  obtain ⟨hi, e2⟩ := Array.getElem?_eq_some_iff.1 e
  have := (Array.all_eq_true.1 h) i hi
  rw [e2] at this
  cases this
/-- the message that has been read, once the blocks A have been stored into -/
theorem FS.msg {W : World} {fb mb : Nat} {Z : Nat → Prop} {B : Nat} {S : Sf} {m : Ms} {w : World} (h : FS W fb mb Z B S m w) (hr : S.m.isRd = true) (hw : wfM m) :
    ∃ ma, Blk w mb 33 ma ∧ (ma.all fun x => x.oneCell') = true ∧ ma.size = 26 ∧ ∀ A : Nat → Prop, (∀ b, A b → b < W.heap.size ∧ ∃ t za, Blk w b t za ∧ za.all noStr = true) → ∀ w', Kp A w w' → InMs w' (.agg ma) m := by
  obtain ⟨se, sl, sc, hb, h1, h2, h3⟩ := h.ls
  have g1 : ∀ A : Nat → Prop, (∀ b, A b → b < W.heap.size ∧ ∃ t za, Blk w b t za ∧ za.all noStr = true) → ∀ w', Kp A w w' → InE w' se m.es := fun A hA w' hk => ERow.ine (W := W) (Z := fun b => Z b ∨ A b) ⟨(h1.1.widen hr (fun b hb => (hA b hb).1)).kp hk (fun b hb e => hb (.inr e)), h1.2⟩ hr
  have g2 : ∀ A : Nat → Prop, (∀ b, A b → b < W.heap.size ∧ ∃ t za, Blk w b t za ∧ za.all noStr = true) → ∀ w', Kp A w w' → InG w' sl m.l.l := fun A hA w' hk => GRow.ing (W := W) (Z := fun b => Z b ∨ A b) (md := S.m) ⟨(h2.1.widen hr (fun b hb => (hA b hb).1)).kp hk (fun b hb e => hb (.inr e)), h2.2⟩
  have g3 : ∀ A : Nat → Prop, (∀ b, A b → b < W.heap.size ∧ ∃ t za, Blk w b t za ∧ za.all noStr = true) → ∀ w', Kp A w w' → InC w' sc m.p.cs := fun A hA w' hk => by
    refine h3.1.kp hk fun hp b hb e => ?_
    obtain ⟨a, c, hsc, -, hx⟩ := h3.1
    obtain ⟨g, off, rfl, k1, k2⟩ := hx 0 hp
    rw [hsc] at hb
    simp only [slB, Option.some.injEq] at hb
    obtain ⟨-, t, za, hza, hz⟩ := hA b e
    rw [← hb] at hza
    rw [hza.cell] at k2
    exact not_str hz k2
  have g0 : ∀ b, (fun _ : Nat => False) b → b < W.heap.size ∧ ∃ t za, Blk w b t za ∧ za.all noStr = true := fun b e => e.elim
  obtain ⟨a1, c1, e1⟩ := (g1 _ g0 w (Kp.refl _ w)).slice_
  obtain ⟨a2, c2, e2⟩ := (g2 _ g0 w (Kp.refl _ w)).slice_
  obtain ⟨a3, c3, e3⟩ := (g3 _ g0 w (Kp.refl _ w)).slice_
  exact ⟨_, hb, by rw [e1, e2, e3]; exact msA_one _ _ _ _ _ _ _ _ _ _, rfl, fun A hA w' hk => ⟨_, _, _, rfl, g1 A hA w' hk, g2 A hA w' hk, g3 A hA w' hk, hw⟩⟩
def zeroA : Array Value := msA zeroM (.slice none 0 0) (.slice none 0 0) (.slice none 0 0)
theorem readM_r {r : Nat} {l : List UInt8} {X : Sf × Ms} (h : rdF r l = X) : readM l = X.2 ∧ readOk l = (!X.1.bad && endB X.1.m.left) := by
  rw [rdF_rn] at h
  obtain ⟨Y, hY⟩ : ∃ Y, rdF 0 l = Y := ⟨_, rfl⟩
  rw [hY] at h
  subst h
  have h1 := readM_of hY
  have h2 := readOk_of hY
  refine ⟨h1, h2.trans ?_⟩
  obtain ⟨⟨md, b⟩, m⟩ := Y
  cases md <;> rfl
theorem zeroA_noStr : zeroA.all noStr = true := msA_noStr _ _ _ _ _ _ _ _ _ _
theorem in8_0 : in8 0 := ⟨by decide, by decide⟩
theorem okIn_zero (k : Int) : OkIn true (p_K zeroM k) :=
  ⟨fun _ => rfl, fun _ => ⟨in8_0, rfl⟩, fun _ => ⟨(fun e he => by cases he), Nat.zero_le _, in8_0⟩, fun _ => in8_0, fun _ => ⟨Int.le_refl _, (by decide : (0 : Int) ≤ 9223372036854775807)⟩, fun _ => ⟨rfl, in8_0, Nat.zero_le _⟩, fun _ => ⟨in8_0, ⟨rfl, rfl⟩, ⟨rfl, rfl⟩, in8_0⟩, fun _ => ⟨rfl, rfl, rfl⟩⟩
theorem setMany_all {vs : List Value} : ∀ (pre post : List Value) (o : Nat), o = pre.length → post.length = vs.length → setMany (pre ++ post).toArray o vs = (pre ++ vs).toArray := by
  induction vs with
  | nil => intro pre post o _ h; rw [List.length_eq_zero_iff.1 h]; rfl
  | cons u us ih =>
    intro pre post o ho h
    cases post with
    | nil => cases h
    | cons x xs =>
      unfold setMany
      have e : (pre ++ x :: xs).toArray.setIfInBounds o u = ((pre ++ [u]) ++ xs).toArray := by
        rw [List.setIfInBounds_toArray, ho]
        simp
      rw [e, ih (pre ++ [u]) xs (o + 1) (by simp [ho]) (by simpa using h)]
      simp
theorem setMany_whole {a b : Array Value} (h : a.size = b.size) : setMany a 0 b.toList = b := by
  have := setMany_all (vs := b.toList) [] a.toList 0 rfl (by simpa using h)
  simpa using this
theorem Blk.rng {w : World} {g : Nat} {t : TypeId} {cs : Array Value} (h : Blk w g t cs) : w.rangeAt g 0 cs.toList := fun j v hj => by
  rw [Nat.zero_add, h.cell]
  simpa using hj
theorem zeroRows {W : World} {Z : Nat → Prop} {md : Md} {w : World} : ERow W Z md [] w (.slice none 0 0) ∧ GRow W Z md [] w (.slice none 0 0) ∧ CRow Z zeroP w (.slice none 0 0) :=
  ⟨⟨⟨none, 0, rfl, .inl rfl, Nat.zero_le _, fun j hj => by cases hj⟩, fun e he => by cases he⟩, ⟨⟨none, 0, rfl, .inl rfl, Nat.zero_le _, fun j hj => by cases hj⟩, fun e he => by cases he⟩, InC.nil_ _ _ _, (fun h => absurd h (by decide)), zero_wf⟩
theorem read_start {w w3 : World} {r : Nat} {l : List UInt8} (hb3 : Below (w.heap.size + 1 + 1) ((w.alloc (.cells zeroA 33)).alloc (.cells zeroA 33)) w3) (hr : w.heap.size + 1 + 1 < r) (hrd : Rdr w3 r (some l)) :
    FS (w.alloc (.cells zeroA 33)) w3.heap.size (w.heap.size + 1) (fun b => b = w.heap.size + 1 ∨ b = w3.heap.size ∨ b = r) 0 ⟨.rd r (some l), false⟩ zeroM (w3.alloc (.cells #[.pointer (some ⟨w.heap.size + 1, 0, none⟩), .string ByteArray.empty, .pointer (some ⟨r, 0, none⟩), .bool false] 68)) ∧
    Blk (w3.alloc (.cells #[.pointer (some ⟨w.heap.size + 1, 0, none⟩), .string ByteArray.empty, .pointer (some ⟨r, 0, none⟩), .bool false] 68)) w.heap.size 33 zeroA := by
  have hs1 : (w.alloc (.cells zeroA 33)).heap.size = w.heap.size + 1 := by simp
  have hs2 : ((w.alloc (.cells zeroA 33)).alloc (.cells zeroA 33)).heap.size = w.heap.size + 1 + 1 := by simp
  have hq := (((Blk.new w 33 zeroA).alloc (Obj.cells zeroA 33)).below hb3 (by omega)).alloc (Obj.cells #[.pointer (some ⟨w.heap.size + 1, 0, none⟩), .string ByteArray.empty, .pointer (some ⟨r, 0, none⟩), .bool false] 68)
  have hm := ((Blk.newAt (w := w.alloc (.cells zeroA 33)) 33 zeroA hs1).below hb3 (by omega)).alloc (Obj.cells #[.pointer (some ⟨w.heap.size + 1, 0, none⟩), .string ByteArray.empty, .pointer (some ⟨r, 0, none⟩), .bool false] 68)
  have hal := (Below.refl w3.heap.size w3).alloc (Nat.le_refl _) (Obj.cells #[.pointer (some ⟨w.heap.size + 1, 0, none⟩), .string ByteArray.empty, .pointer (some ⟨r, 0, none⟩), .bool false] 68)
  have hsz := hb3.size
  rw [hs2] at hsz
  have hkp : Below (w.heap.size + 1) (w.alloc (.cells zeroA 33)) (w3.alloc (.cells #[.pointer (some ⟨w.heap.size + 1, 0, none⟩), .string ByteArray.empty, .pointer (some ⟨r, 0, none⟩), .bool false] 68)) := by
    have h1 := (Below.refl (w.heap.size + 1) (w.alloc (.cells zeroA 33))).alloc (by omega) (Obj.cells zeroA 33)
    exact (h1.trans (hb3.mono (by omega))).trans (hal.mono (by omega))
  have hkpW : Below (w.alloc (.cells zeroA 33)).heap.size (w.alloc (.cells zeroA 33)) (w3.alloc (.cells #[.pointer (some ⟨w.heap.size + 1, 0, none⟩), .string ByteArray.empty, .pointer (some ⟨r, 0, none⟩), .bool false] 68)) := by rw [hs1]; exact hkp
  have hrl := hrd.lt
  have zr := zeroRows (W := w.alloc (.cells zeroA 33)) (Z := fun b => b = w.heap.size + 1 ∨ b = w3.heap.size ∨ b = r) (md := .rd r (some l)) (w := w3.alloc (.cells #[.pointer (some ⟨w.heap.size + 1, 0, none⟩), .string ByteArray.empty, .pointer (some ⟨r, 0, none⟩), .bool false] 68))
  refine ⟨⟨Kp.of_below hkpW, ⟨Blk.new _ _ _, hrd.keep hal, ?_⟩, ?_, .inl rfl, ?_, by omega, ?_, Nat.le_refl _, _, _, _, hm, zr.1, zr.2.1, zr.2.2⟩, hq⟩
  · intro h
    have h' : w3.heap.size = r ∨ w3.heap.size + 1 = r := h
    omega
  · intro b hb
    have hb' : b = w3.heap.size ∨ b = r := hb
    exact .inr hb'
  · intro b hb
    rcases hb with e | e
    · exact .inl e
    · exact .inr e
  · intro h
    have h' : w.heap.size + 1 = r ∨ w.heap.size + 1 + 1 = r := h
    omega
/-- what read answers -/
def ReadT (w : World) (l : List UInt8) (e : Ending) (w' : World) : Prop := ∃ v, e = .returned (.tuple #[v, .bool (readOk l)]) ∧ InMs w' v (readM l) ∧ Below w.heap.size w w' ∧ ∀ q' t za, Blk w q' t za → za.all noStr = true → ∀ w'', Kp (· = q') w' w'' → InMs w'' v (readM l)
theorem Kp.drew2 {A : Nat → Prop} {a b : World} (h : Kp A a b) : Kp A a b.drew := h.drew
set_option maxRecDepth 100000 in
set_option maxHeartbeats 4000000 in
theorem read_any (w : World) (s : ByteArray) (hs : s.size ≤ 1152921504606846976) : Calls Try.prog 16 #[.string s] w (ReadT w s.data.toList) := by
  unfold ReadT
  obtain ⟨l, hl⟩ : ∃ l, l = s.data.toList := ⟨_, rfl⟩
  rw [← hl]
  obtain ⟨M, hM⟩ : ∃ M, readM l = M := ⟨_, rfl⟩
  obtain ⟨ob, hob⟩ : ∃ b, readOk l = b := ⟨_, rfl⟩
  rw [hM, hob]
  have HNR := Lib.hid (newReader2_any s ((w.alloc (.cells zeroA 33)).alloc (.cells zeroA 33)) hs)
  rw [← hl] at HNR
  have HM := Lib.hid hM
  have HOB := Lib.hid hob
  have HL := Lib.hid hl
  clear hM hob hl
  clear hs
  go_enter Try.func16, Try.ntmps16
  go_wp2_with fail
  refine HNR.out.mono ?_
  rintro e w3 ⟨r, rfl, hr, hrd, hb3⟩
  have hs2 : ((w.alloc (.cells zeroA 33)).alloc (.cells zeroA 33)).heap.size = w.heap.size + 1 + 1 := by simp
  rw [hs2] at hr hb3
  obtain ⟨h0, hq0⟩ := read_start hb3 hr hrd
  obtain ⟨q0, e0⟩ : ∃ q0 : Sf × Ms, q0 = (⟨.rd r (some l), false⟩, zeroM) := ⟨_, rfl⟩
  obtain ⟨q1, e1⟩ : ∃ q1, q1 = iK q0 := ⟨_, rfl⟩
  obtain ⟨q2, e2⟩ : ∃ q2, q2 = allF q1.1 q1.2 := ⟨_, rfl⟩
  have hX : rdF r l = q2 := by
    rw [e2]
    exact rdF_of (by rw [e1, e0])
  have hfin := readM_r hX
  rw [HM.out, HOB.out] at hfin
  have h0' : FS (w.alloc (.cells zeroA 33)) w3.heap.size (w.heap.size + 1) (fun b => b = w.heap.size + 1 ∨ b = w3.heap.size ∨ b = r) 0 q0.1 q0.2 (w3.alloc (.cells #[.pointer (some ⟨w.heap.size + 1, 0, none⟩), .string ByteArray.empty, .pointer (some ⟨r, 0, none⟩), .bool false] 68)) := by rw [e0]; exact h0
  have hsf : (w3.alloc (.cells #[.pointer (some ⟨w.heap.size + 1, 0, none⟩), .string ByteArray.empty, .pointer (some ⟨r, 0, none⟩), .bool false] 68)).heap.size = w3.heap.size + 1 := by simp
  have H1 := h0'.iK (by rw [e0]; exact in8_0) (by decide)
  rw [← e1, hsf] at H1
  replace H1 := Lib.hid H1
  have hal1 : Alike q0.1 q1.1 := by rw [e1]; exact iK_alike q0
  have hal2 : Alike q0.1 q2.1 := by rw [e2]; exact hal1.trans (allF_alike _ _)
  have hok : OkIn q1.1.m.isRd q1.2 := by
    have e : q1.1.m.isRd = true := by rw [hal1.2.2, e0]; rfl
    rw [e, e1]
    have e9 : (iK q0).2 = p_K zeroM (intF q0.1 q0.2.K).2 := by rw [show (iK q0).2 = p_K q0.2 (intF q0.1 q0.2.K).2 from rfl, e0]
    rw [e9]
    exact okIn_zero _
  have H2 := Lib.hid (fun w2 (h : FS (w.alloc (.cells zeroA 33)) w3.heap.size (w.heap.size + 1) (fun b => b = w.heap.size + 1 ∨ b = w3.heap.size ∨ b = r) (0 + 9) q1.1 q1.2 w2) => all_any h hok (by decide))
  rw [← e2] at H2
  have hwf : wfM q2.2 := by rw [← hfin.1, ← HM.out]; exact readM_wf l
  have hrd2 : q2.1.m.isRd = true := by rw [hal2.2.2, e0]; rfl
  obtain ⟨st, hst⟩ : ∃ st, q2.1.m = .rd r st := by
    have h5 := hal2.2.1
    rw [e0] at h5
    cases hm : q2.1.m with
    | lay s' => rw [hm] at hrd2; cases hrd2
    | rd r' st' =>
      rw [hm] at h5
      have h6 : (r' = r') = (r' = r) := congrFun h5 r'
      have h7 : r' = r := by rw [← h6]
      exact ⟨st', by rw [h7]⟩
  have hend : ob = (!q2.1.bad && endB st) := by
    rw [hfin.2, hst]
    rfl
  -- what becomes of it behind all
  have hQW : w.heap.size < (w.alloc (.cells zeroA 33)).heap.size := by simp
  have hqz : ∀ b, (b = w.heap.size + 1 ∨ b = w3.heap.size ∨ b = r) → ¬ b = w.heap.size := by
    have := hrd.lt
    intro b hb e
    omega
  have hqlt : w.heap.size < w3.heap.size := by have := hb3.size; rw [hs2] at this; omega
  have HAFT : Hid (∀ w9, FS (w.alloc (.cells zeroA 33)) w3.heap.size (w.heap.size + 1) (fun b => b = w.heap.size + 1 ∨ b = w3.heap.size ∨ b = r) (0 + 9 + 500000) q2.1 q2.2 w9 →
      Blk w9 w.heap.size 33 zeroA ∧ Blk w9 w3.heap.size 68 #[.pointer (some ⟨w.heap.size + 1, 0, none⟩), .string q2.1.m.out, .pointer (some ⟨r, 0, none⟩), .bool q2.1.bad] ∧ Rdr w9 r st ∧ Below w.heap.size w w9 ∧
      ∃ ma, Blk w9 (w.heap.size + 1) 33 ma ∧ (ma.all fun x => x.oneCell') = true ∧ ma.size = 26 ∧ ∀ q', (q' = w.heap.size ∨ ∃ t za, Blk w q' t za ∧ za.all noStr = true) → ∀ w', Kp (fun b => b = w.heap.size ∨ b = q') w9 w' → InMs w' (.agg ma) M) := Lib.hid fun w9 h9 => by
    have hqb : Blk w9 w.heap.size 33 zeroA := h9.kp.blk (Blk.new w _ _) (fun h => hqz _ h rfl)
    have h7 := h9.fd.1
    rw [show q2.1.m.inV = .pointer (some ⟨r, 0, none⟩) by rw [hst]; rfl] at h7
    have h8 := h9.fd.2.1
    rw [hst] at h8
    refine ⟨hqb, h7, h8, ?_, ?_⟩
    · refine (((Below.refl w.heap.size w).alloc (Nat.le_refl _) _)).trans (h9.kp.below (B := w.heap.size) (fun b hb => ?_) (by omega))
      rcases hb with e | e | e <;> omega
    · rw [hfin.1]
      obtain ⟨ma, g1, g2, g3, g4⟩ := h9.msg hrd2 hwf
      refine ⟨ma, g1, g2, g3, fun q' hq' w' hk => g4 _ (fun b hb => ?_) w' hk⟩
      have hzero : w.heap.size < (w.alloc (.cells zeroA 33)).heap.size ∧ ∃ t za, Blk w9 w.heap.size t za ∧ za.all noStr = true := ⟨hQW, _, _, hqb, zeroA_noStr⟩
      rcases hb with rfl | rfl
      · exact hzero
      · rcases hq' with rfl | ⟨t, za, hz1, hz2⟩
        · exact hzero
        · have hlt := hz1.lt
          refine ⟨by omega, t, za, h9.kp.blk (hz1.alloc _) (fun h => ?_), hz2⟩
          rcases h with e | e | e <;> omega
  have HEND : Hid (∀ w9 w2, Rdr w9 r st → Kp (· = w.heap.size) w9 w2 → Calls Try.prog 25 #[.pointer (some ⟨r, 0, none⟩)] w2 fun e w' => e = .returned (.bool (endB st)) ∧ w2 = w') := Lib.hid fun w9 w2 h1 h2 => end_any r st w2 (h1.kp h2 (fun b hb => by omega))
  have HNE : Hid (w3.heap.size ≠ w.heap.size) := Lib.hid (by omega)
  have HNM : Hid (w.heap.size + 1 ≠ w.heap.size) := Lib.hid (by omega)
  have c0 := h0'.slots
  have HFIN := Lib.hid hend
  clear hr hrd hb3 hs2 h0 hq0 hX h0' hsf hal1 hal2 hok hwf hrd2 hend hQW hqz hqlt hfin e0 e1 e2 hst HNR HM HOB HL
  go_wp2_with fail
  refine H1.out.mono ?_
  rintro e w4 ⟨rfl, h4⟩
  have d1 := h4.slots
  have G4 := Lib.hid h4
  clear h4 c0
  go_wp2_with fail
  refine (H2.out w4 G4.out).mono ?_
  rintro e w9 ⟨rfl, h9⟩
  obtain ⟨hq9, hf9, hr9, hb9, ma, hm9, hone, hsz9, hin9⟩ := HAFT.out w9 h9
  have HQ := Lib.hid hq9
  have HFB := Lib.hid hf9
  have HMB := Lib.hid hm9
  have HONE := Lib.hid hone
  have HMZ := Lib.hid hsz9
  have HIN := Lib.hid hin9
  have HB9 := Lib.hid hb9
  have HSZ : Hid ((Try.prog.info? 33).map (·.size) = some ma.toList.length) := Lib.hid (by rw [Array.length_toList, hsz9]; exact msg_size zeroM (.slice none 0 0) (.slice none 0 0) (.slice none 0 0))
  have HSZ2 : Hid ((Try.prog.info? 33).map (·.size) = some ma.size) := Lib.hid (by rw [hsz9]; exact msg_size zeroM (.slice none 0 0) (.slice none 0 0) (.slice none 0 0))
  replace HEND := Lib.hid (fun w2 h2 => HEND.out w9 w2 hr9 h2)
  clear d1 G4 h9 hq9 hf9 hr9 hb9 hm9 hone hsz9 hin9 HAFT H1 H2
  generalize q2.1.m.out = os at *
  generalize q2.1.bad = bd at *
  generalize endB st = eb at *
  cases bd with
  | false =>
    go_wp2_with fail
    refine wp_region_chain [16, 18] (kv [(16, .is (.bool eb)), (18, .is undef)]) (fun l w2 => match l with | [_, _] => Kp (· = w.heap.size) w9 w2 ∧ Blk w2 w.heap.size 33 ma | _ => Kp (· = w.heap.size) w9 w2 ∧ Blk w2 w.heap.size 33 zeroA) (by kernel_rfl) (by kernel_rfl) (by kernel_rfl) (kv_inh _) (⟨(Kp.refl _ _).drew, HQ.out.drew⟩) ?_
    intro ν hν
    have n16 : ν 16 = .bool eb := hν 16
    have n18 : ν 18 = undef := hν 18
    clear hν
    refine ch_plain 0 2 6 (by rfl) rfl (by kernel_rfl) (by kernel_rfl) ?_
    apply Exists.intro
    refine ⟨fun st w2 hlo hhi hJ => ?_, ?_⟩
    · clear hlo hhi hJ
      go_simp
      exact And.intro rfl rfl
    simp only [Act.put, List.setIfInBounds_toArray, List.set_cons_succ, List.set_cons_zero, Nat.reduceAdd]
    refine ch_plain 0 2 6 (by rfl) rfl (by kernel_rfl) (by kernel_rfl) ?_
    apply Exists.intro
    refine ⟨fun st w2 hlo hhi hJ => ?_, ?_⟩
    · clear hlo hhi hJ
      go_simp
      exact And.intro rfl rfl
    simp only [Act.put, List.setIfInBounds_toArray, List.set_cons_succ, List.set_cons_zero, Nat.reduceAdd]
    refine ch_plain 0 2 6 (by rfl) rfl (by kernel_rfl) (by kernel_rfl) ?_
    apply Exists.intro
    refine ⟨fun st w2 hlo hhi hJ => ?_, ?_⟩
    · clear hlo hhi hJ
      go_simp
      exact And.intro rfl rfl
    simp only [Act.put, List.setIfInBounds_toArray, List.set_cons_succ, List.set_cons_zero, Nat.reduceAdd]
    refine ch_plain 0 2 6 (by rfl) rfl (by kernel_rfl) (by kernel_rfl) ?_
    apply Exists.intro
    refine ⟨fun st w2 hlo hhi hJ => ?_, ?_⟩
    · have hj : Kp (· = w.heap.size) w9 w2 := by
        have q : st = 0 ∨ st = 1 ∨ st = 2 := by omega
        rcases q with rfl | rfl | rfl
        · exact (show Kp (· = w.heap.size) w9 w2 ∧ _ from hJ).1
        · exact (show Kp (· = w.heap.size) w9 w2 ∧ _ from hJ).1
        · exact (show Kp (· = w.heap.size) w9 w2 ∧ _ from hJ).1
      have y3 := (hj.blk HFB.out HNE.out).cell 0
      simp at y3
      clear hj
      clear hlo hhi hJ
      go_simp
      exact And.intro rfl rfl
    simp only [Act.put, List.setIfInBounds_toArray, List.set_cons_succ, List.set_cons_zero, Nat.reduceAdd]
    refine ch_plain 0 2 6 (by rfl) rfl (by kernel_rfl) (by kernel_rfl) ?_
    apply Exists.intro
    refine ⟨fun st w2 hlo hhi hJ => ?_, ?_⟩
    · clear hlo hhi hJ
      go_simp
      exact And.intro rfl rfl
    simp only [Act.put, List.setIfInBounds_toArray, List.set_cons_succ, List.set_cons_zero, Nat.reduceAdd]
    refine ch_plain 0 2 6 (by rfl) rfl (by kernel_rfl) (by kernel_rfl) ?_
    apply Exists.intro
    refine ⟨fun st w2 hlo hhi hJ => ?_, ?_⟩
    · have hj : Kp (· = w.heap.size) w9 w2 := by
        have q : st = 0 ∨ st = 1 ∨ st = 2 := by omega
        rcases q with rfl | rfl | rfl
        · exact (show Kp (· = w.heap.size) w9 w2 ∧ _ from hJ).1
        · exact (show Kp (· = w.heap.size) w9 w2 ∧ _ from hJ).1
        · exact (show Kp (· = w.heap.size) w9 w2 ∧ _ from hJ).1
      have hy := hj.blk HMB.out HNM.out
      have hyr := hy.rng
      clear hj hlo hhi hJ hy
      rw [exec_load_mid 33 _ rfl (w.heap.size + 1) 0 rfl ma.toList _ hyr Try.underlying33 rfl HSZ.out, Array.toArray_toList]
      exact And.intro rfl rfl
    simp only [Act.put, List.setIfInBounds_toArray, List.set_cons_succ, List.set_cons_zero, Nat.reduceAdd]
    refine ch_plain 0 2 6 (by rfl) rfl (by kernel_rfl) (by kernel_rfl) ?_
    apply Exists.intro
    refine ⟨fun st w2 hlo hhi hJ => ?_, ?_⟩
    · clear hlo hhi hJ
      go_simp
      exact And.intro rfl rfl
    simp only [Act.put, List.setIfInBounds_toArray, List.set_cons_succ, List.set_cons_zero, Nat.reduceAdd]
    refine ch_plain 0 2 6 (by rfl) rfl (by kernel_rfl) (by kernel_rfl) ?_
    apply Exists.intro
    refine ⟨fun st w2 hlo hhi hJ => ?_, ?_⟩
    · clear hlo hhi hJ
      go_simp
      exact And.intro rfl rfl
    simp only [Act.put, List.setIfInBounds_toArray, List.set_cons_succ, List.set_cons_zero, Nat.reduceAdd]
    refine ch_plain 0 2 6 (by rfl) rfl (by kernel_rfl) (by kernel_rfl) ?_
    apply Exists.intro
    refine ⟨fun st w2 hlo hhi hJ => ?_, ?_⟩
    · clear hlo hhi hJ
      go_simp
      exact And.intro rfl rfl
    simp only [Act.put, List.setIfInBounds_toArray, List.set_cons_succ, List.set_cons_zero, Nat.reduceAdd]
    refine ch_plain 0 2 6 (by rfl) rfl (by kernel_rfl) (by kernel_rfl) ?_
    apply Exists.intro
    refine ⟨fun st w2 hlo hhi hJ => ?_, ?_⟩
    · have hj : Kp (· = w.heap.size) w9 w2 := by
        have q : st = 0 ∨ st = 1 ∨ st = 2 := by omega
        rcases q with rfl | rfl | rfl
        · exact (show Kp (· = w.heap.size) w9 w2 ∧ _ from hJ).1
        · exact (show Kp (· = w.heap.size) w9 w2 ∧ _ from hJ).1
        · exact (show Kp (· = w.heap.size) w9 w2 ∧ _ from hJ).1
      have y9 := (hj.blk HFB.out HNE.out).cell 3
      simp at y9
      clear hj
      clear hlo hhi hJ
      go_simp
      exact And.intro rfl rfl
    simp only [Act.put, List.setIfInBounds_toArray, List.set_cons_succ, List.set_cons_zero, Nat.reduceAdd]
    refine ch_plain 0 2 6 (by rfl) rfl (by kernel_rfl) (by kernel_rfl) ?_
    apply Exists.intro
    refine ⟨fun st w2 hlo hhi hJ => ?_, ?_⟩
    · clear hlo hhi hJ
      go_simp
      exact And.intro rfl rfl
    simp only [Act.put, List.setIfInBounds_toArray, List.set_cons_succ, List.set_cons_zero, Nat.reduceAdd]
    refine ch_plain 0 2 6 (by rfl) rfl (by kernel_rfl) (by kernel_rfl) ?_
    apply Exists.intro
    refine ⟨fun st w2 hlo hhi hJ => ?_, ?_⟩
    · clear hlo hhi hJ
      go_simp
      exact And.intro rfl rfl
    simp only [Act.put, List.setIfInBounds_toArray, List.set_cons_succ, List.set_cons_zero, Nat.reduceAdd]
    refine ch_plain 0 2 6 (by rfl) rfl (by kernel_rfl) (by kernel_rfl) ?_
    apply Exists.intro
    refine ⟨fun st w2 hlo hhi hJ => ?_, ?_⟩
    · clear hlo hhi hJ
      go_simp
      exact And.intro rfl rfl
    simp only [Act.put, List.setIfInBounds_toArray, List.set_cons_succ, List.set_cons_zero, Nat.reduceAdd]
    refine ch_plain 0 2 6 (by rfl) rfl (by kernel_rfl) (by kernel_rfl) ?_
    apply Exists.intro
    refine ⟨fun st w2 hlo hhi hJ => ?_, ?_⟩
    · clear hlo hhi hJ
      go_simp
      exact And.intro rfl rfl
    simp only [Act.put, List.setIfInBounds_toArray, List.set_cons_succ, List.set_cons_zero, Nat.reduceAdd]
    refine ch_plain 0 2 6 (by rfl) rfl (by kernel_rfl) (by kernel_rfl) ?_
    apply Exists.intro
    refine ⟨fun st w2 hlo hhi hJ => ?_, ?_⟩
    · clear hlo hhi hJ
      go_simp
      exact And.intro rfl rfl
    simp only [Act.put, List.setIfInBounds_toArray, List.set_cons_succ, List.set_cons_zero, Nat.reduceAdd]
    refine ch_plain 0 2 6 (by rfl) rfl (by kernel_rfl) (by kernel_rfl) ?_
    apply Exists.intro
    refine ⟨fun st w2 hlo hhi hJ => ?_, ?_⟩
    · have hj : Kp (· = w.heap.size) w9 w2 := by
        have q : st = 0 ∨ st = 1 ∨ st = 2 := by omega
        rcases q with rfl | rfl | rfl
        · exact (show Kp (· = w.heap.size) w9 w2 ∧ _ from hJ).1
        · exact (show Kp (· = w.heap.size) w9 w2 ∧ _ from hJ).1
        · exact (show Kp (· = w.heap.size) w9 w2 ∧ _ from hJ).1
      have y15 := (hj.blk HFB.out HNE.out).cell 2
      simp at y15
      clear hj
      clear hlo hhi hJ
      go_simp
      exact And.intro rfl rfl
    simp only [Act.put, List.setIfInBounds_toArray, List.set_cons_succ, List.set_cons_zero, Nat.reduceAdd]
    refine ch_special 0 6 (by rfl) rfl (by decide) (by kernel_rfl) (fun w2 hJ => ?_) ?_
    · have hj : Kp (· = w.heap.size) w9 w2 ∧ Blk w2 w.heap.size 33 zeroA := hJ
      go_simp
      refine (HEND.out w2 hj.1).mono ?_
      rintro e w3 ⟨rfl, rfl⟩
      exact ⟨_, rfl, rfl, hj⟩
    rw [n16]
    simp only [Act.put, List.setIfInBounds_toArray, List.set_cons_succ, List.set_cons_zero, Nat.reduceAdd]
    refine ch_plain 0 2 6 (by rfl) rfl (by kernel_rfl) (by kernel_rfl) ?_
    apply Exists.intro
    refine ⟨fun st w2 hlo hhi hJ => ?_, ?_⟩
    · clear hlo hhi hJ
      go_simp
      exact And.intro rfl rfl
    simp only [Act.put, List.setIfInBounds_toArray, List.set_cons_succ, List.set_cons_zero, Nat.reduceAdd]
    refine ch_special 1 6 (by rfl) rfl (by decide) (by kernel_rfl) (fun w2 hJ => ?_) ?_
    · have hj : Kp (· = w.heap.size) w9 w2 ∧ Blk w2 w.heap.size 33 zeroA := hJ
      have hth := hj.2.there (o := 0) (n := ma.size) (by rw [HMZ.out]; decide)
      clear hJ
      rw [exec_store_mid 33 (.tmp 2) (.tmp 27) rfl w.heap.size 0 ma rfl rfl hth HSZ2.out HONE.out]
      have hbk := blk_setCells ma.toList 0 w2 _ hj.2
      rw [setMany_whole (by rw [HMZ.out]; rfl)] at hbk
      exact ⟨rfl, hj.1.trans (kp_setCells _ _ _ _), hbk⟩
    simp only [Act.put, Nat.reduceAdd]
    refine ch_plain 0 2 6 (by rfl) rfl (by kernel_rfl) (by kernel_rfl) ?_
    apply Exists.intro
    refine ⟨fun st w2 hlo hhi hJ => ?_, ?_⟩
    · clear hlo hhi hJ
      go_simp
      exact And.intro rfl rfl
    simp only [Act.put, Nat.reduceAdd]
    refine ch_nil (fun w5 hJ => ?_)
    have hJ5 : Kp (· = w.heap.size) w9 w5 ∧ Blk w5 w.heap.size 33 ma := hJ
    have HJ5 := Lib.hid hJ5
    clear hJ hJ5 n18 n16
    go_wp2
    refine bodyPost_ret (results_cell2 (ty := 33) (g := w.heap.size) (k := 2) (m := 3) rfl rfl rfl HJ5.out.2 Try.underlying33 rfl HSZ2.out) rfl ?_
    refine ⟨_, ?_, HIN.out _ (.inl rfl) w5 (HJ5.out.1.mono fun b e => .inl e), HB9.out.trans (HJ5.out.1.below (fun b e => Nat.le_of_eq e.symm) HB9.out.size), fun q' t za h1 h2 w'' hk => HIN.out q' (.inr ⟨t, za, h1, h2⟩) w'' ((HJ5.out.1.mono fun b e => .inl e).trans (hk.mono fun b e => .inr e))⟩
    rw [HFIN.out]
    rfl
  | true =>
    go_wp2_with fail
    refine wp_region_chain [18] (kv [(18, .is undef)]) (fun l w2 => match l with | [_] => Kp (· = w.heap.size) w9 w2 ∧ Blk w2 w.heap.size 33 ma | _ => Kp (· = w.heap.size) w9 w2 ∧ Blk w2 w.heap.size 33 zeroA) (by kernel_rfl) (by kernel_rfl) (by kernel_rfl) (kv_inh _) (⟨(Kp.refl _ _).drew, HQ.out.drew⟩) ?_
    intro ν hν
    have n18 : ν 18 = undef := hν 18
    clear hν
    refine ch_plain 0 1 6 (by rfl) rfl (by kernel_rfl) (by kernel_rfl) ?_
    apply Exists.intro
    refine ⟨fun st w2 hlo hhi hJ => ?_, ?_⟩
    · clear hlo hhi hJ
      go_simp
      exact And.intro rfl rfl
    simp only [Act.put, List.setIfInBounds_toArray, List.set_cons_succ, List.set_cons_zero, Nat.reduceAdd]
    refine ch_plain 0 1 6 (by rfl) rfl (by kernel_rfl) (by kernel_rfl) ?_
    apply Exists.intro
    refine ⟨fun st w2 hlo hhi hJ => ?_, ?_⟩
    · clear hlo hhi hJ
      go_simp
      exact And.intro rfl rfl
    simp only [Act.put, List.setIfInBounds_toArray, List.set_cons_succ, List.set_cons_zero, Nat.reduceAdd]
    refine ch_plain 0 1 6 (by rfl) rfl (by kernel_rfl) (by kernel_rfl) ?_
    apply Exists.intro
    refine ⟨fun st w2 hlo hhi hJ => ?_, ?_⟩
    · clear hlo hhi hJ
      go_simp
      exact And.intro rfl rfl
    simp only [Act.put, List.setIfInBounds_toArray, List.set_cons_succ, List.set_cons_zero, Nat.reduceAdd]
    refine ch_plain 0 1 6 (by rfl) rfl (by kernel_rfl) (by kernel_rfl) ?_
    apply Exists.intro
    refine ⟨fun st w2 hlo hhi hJ => ?_, ?_⟩
    · have hj : Kp (· = w.heap.size) w9 w2 := by
        have q : st = 0 ∨ st = 1 := by omega
        rcases q with rfl | rfl
        · exact (show Kp (· = w.heap.size) w9 w2 ∧ _ from hJ).1
        · exact (show Kp (· = w.heap.size) w9 w2 ∧ _ from hJ).1
      have y3 := (hj.blk HFB.out HNE.out).cell 0
      simp at y3
      clear hj
      clear hlo hhi hJ
      go_simp
      exact And.intro rfl rfl
    simp only [Act.put, List.setIfInBounds_toArray, List.set_cons_succ, List.set_cons_zero, Nat.reduceAdd]
    refine ch_plain 0 1 6 (by rfl) rfl (by kernel_rfl) (by kernel_rfl) ?_
    apply Exists.intro
    refine ⟨fun st w2 hlo hhi hJ => ?_, ?_⟩
    · clear hlo hhi hJ
      go_simp
      exact And.intro rfl rfl
    simp only [Act.put, List.setIfInBounds_toArray, List.set_cons_succ, List.set_cons_zero, Nat.reduceAdd]
    refine ch_plain 0 1 6 (by rfl) rfl (by kernel_rfl) (by kernel_rfl) ?_
    apply Exists.intro
    refine ⟨fun st w2 hlo hhi hJ => ?_, ?_⟩
    · have hj : Kp (· = w.heap.size) w9 w2 := by
        have q : st = 0 ∨ st = 1 := by omega
        rcases q with rfl | rfl
        · exact (show Kp (· = w.heap.size) w9 w2 ∧ _ from hJ).1
        · exact (show Kp (· = w.heap.size) w9 w2 ∧ _ from hJ).1
      have hy := hj.blk HMB.out HNM.out
      have hyr := hy.rng
      clear hj hlo hhi hJ hy
      rw [exec_load_mid 33 _ rfl (w.heap.size + 1) 0 rfl ma.toList _ hyr Try.underlying33 rfl HSZ.out, Array.toArray_toList]
      exact And.intro rfl rfl
    simp only [Act.put, List.setIfInBounds_toArray, List.set_cons_succ, List.set_cons_zero, Nat.reduceAdd]
    refine ch_plain 0 1 6 (by rfl) rfl (by kernel_rfl) (by kernel_rfl) ?_
    apply Exists.intro
    refine ⟨fun st w2 hlo hhi hJ => ?_, ?_⟩
    · clear hlo hhi hJ
      go_simp
      exact And.intro rfl rfl
    simp only [Act.put, List.setIfInBounds_toArray, List.set_cons_succ, List.set_cons_zero, Nat.reduceAdd]
    refine ch_plain 0 1 6 (by rfl) rfl (by kernel_rfl) (by kernel_rfl) ?_
    apply Exists.intro
    refine ⟨fun st w2 hlo hhi hJ => ?_, ?_⟩
    · clear hlo hhi hJ
      go_simp
      exact And.intro rfl rfl
    simp only [Act.put, List.setIfInBounds_toArray, List.set_cons_succ, List.set_cons_zero, Nat.reduceAdd]
    refine ch_plain 0 1 6 (by rfl) rfl (by kernel_rfl) (by kernel_rfl) ?_
    apply Exists.intro
    refine ⟨fun st w2 hlo hhi hJ => ?_, ?_⟩
    · clear hlo hhi hJ
      go_simp
      exact And.intro rfl rfl
    simp only [Act.put, List.setIfInBounds_toArray, List.set_cons_succ, List.set_cons_zero, Nat.reduceAdd]
    refine ch_plain 0 1 6 (by rfl) rfl (by kernel_rfl) (by kernel_rfl) ?_
    apply Exists.intro
    refine ⟨fun st w2 hlo hhi hJ => ?_, ?_⟩
    · have hj : Kp (· = w.heap.size) w9 w2 := by
        have q : st = 0 ∨ st = 1 := by omega
        rcases q with rfl | rfl
        · exact (show Kp (· = w.heap.size) w9 w2 ∧ _ from hJ).1
        · exact (show Kp (· = w.heap.size) w9 w2 ∧ _ from hJ).1
      have y9 := (hj.blk HFB.out HNE.out).cell 3
      simp at y9
      clear hj
      clear hlo hhi hJ
      go_simp
      exact And.intro rfl rfl
    simp only [Act.put, List.setIfInBounds_toArray, List.set_cons_succ, List.set_cons_zero, Nat.reduceAdd]
    refine ch_plain 0 1 6 (by rfl) rfl (by kernel_rfl) (by kernel_rfl) ?_
    apply Exists.intro
    refine ⟨fun st w2 hlo hhi hJ => ?_, ?_⟩
    · clear hlo hhi hJ
      go_simp
      exact And.intro rfl rfl
    simp only [Act.put, List.setIfInBounds_toArray, List.set_cons_succ, List.set_cons_zero, Nat.reduceAdd]
    refine ch_plain 0 1 6 (by rfl) rfl (by kernel_rfl) (by kernel_rfl) ?_
    apply Exists.intro
    refine ⟨fun st w2 hlo hhi hJ => ?_, ?_⟩
    · clear hlo hhi hJ
      go_simp
      exact And.intro rfl rfl
    simp only [Act.put, List.setIfInBounds_toArray, List.set_cons_succ, List.set_cons_zero, Nat.reduceAdd]
    refine ch_skip (by rfl) (by rfl) ?_
    simp only [Act.put, List.setIfInBounds_toArray, List.set_cons_succ, List.set_cons_zero, Nat.reduceAdd]
    refine ch_skip (by rfl) (by rfl) ?_
    simp only [Act.put, List.setIfInBounds_toArray, List.set_cons_succ, List.set_cons_zero, Nat.reduceAdd]
    refine ch_skip (by rfl) (by rfl) ?_
    simp only [Act.put, List.setIfInBounds_toArray, List.set_cons_succ, List.set_cons_zero, Nat.reduceAdd]
    refine ch_skip (by rfl) (by rfl) ?_
    simp only [Act.put, List.setIfInBounds_toArray, List.set_cons_succ, List.set_cons_zero, Nat.reduceAdd]
    refine ch_skip (by rfl) (by rfl) ?_
    simp only [Act.put, List.setIfInBounds_toArray, List.set_cons_succ, List.set_cons_zero, Nat.reduceAdd]
    refine ch_plain 0 1 6 (by rfl) rfl (by kernel_rfl) (by kernel_rfl) ?_
    apply Exists.intro
    refine ⟨fun st w2 hlo hhi hJ => ?_, ?_⟩
    · clear hlo hhi hJ
      go_simp
      exact And.intro rfl rfl
    simp only [Act.put, List.setIfInBounds_toArray, List.set_cons_succ, List.set_cons_zero, Nat.reduceAdd]
    refine ch_special 0 6 (by rfl) rfl (by decide) (by kernel_rfl) (fun w2 hJ => ?_) ?_
    · have hj : Kp (· = w.heap.size) w9 w2 ∧ Blk w2 w.heap.size 33 zeroA := hJ
      have hth := hj.2.there (o := 0) (n := ma.size) (by rw [HMZ.out]; decide)
      clear hJ
      rw [exec_store_mid 33 (.tmp 2) (.tmp 27) rfl w.heap.size 0 ma rfl rfl hth HSZ2.out HONE.out]
      have hbk := blk_setCells ma.toList 0 w2 _ hj.2
      rw [setMany_whole (by rw [HMZ.out]; rfl)] at hbk
      exact ⟨rfl, hj.1.trans (kp_setCells _ _ _ _), hbk⟩
    simp only [Act.put, Nat.reduceAdd]
    refine ch_plain 0 1 6 (by rfl) rfl (by kernel_rfl) (by kernel_rfl) ?_
    apply Exists.intro
    refine ⟨fun st w2 hlo hhi hJ => ?_, ?_⟩
    · clear hlo hhi hJ
      go_simp
      exact And.intro rfl rfl
    simp only [Act.put, Nat.reduceAdd]
    refine ch_nil (fun w5 hJ => ?_)
    have hJ5 : Kp (· = w.heap.size) w9 w5 ∧ Blk w5 w.heap.size 33 ma := hJ
    have HJ5 := Lib.hid hJ5
    clear hJ hJ5 n18
    go_wp2
    refine bodyPost_ret (results_cell2 (ty := 33) (g := w.heap.size) (k := 2) (m := 3) rfl rfl rfl HJ5.out.2 Try.underlying33 rfl HSZ2.out) rfl ?_
    refine ⟨_, ?_, HIN.out _ (.inl rfl) w5 (HJ5.out.1.mono fun b e => .inl e), HB9.out.trans (HJ5.out.1.below (fun b e => Nat.le_of_eq e.symm) HB9.out.size), fun q' t za h1 h2 w'' hk => HIN.out q' (.inr ⟨t, za, h1, h2⟩) w'' ((HJ5.out.1.mono fun b e => .inl e).trans (hk.mono fun b e => .inr e))⟩
    rw [HFIN.out]
    rfl
end Go.Proofs.Ytikimmhkfjaijaa
