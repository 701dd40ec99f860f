import Derived.Test.YtocilenpboklbaaGreatDoorSyG
set_option maxRecDepth 100000
set_option linter.all false
namespace Go.Ev
theorem byi [Gv] : aq 4 [.str 16 140142493254871783820688370579714699118] 256 [] (.ret (.bool true)) 256 [] := ag (n := 20000) (A := []) (T := []) (E := .nil) (ai SAll.nil _ hcn) ac SAll.nil trivial rfl rfl (by kernel_rfl)
theorem byj [Gv] : aq 4 [.str 19 2351200880115526969479425374119979311791628664] 256 [] (.ret (.bool true)) 256 [] := ag (n := 20000) (A := []) (T := []) (E := .nil) (ai SAll.nil _ hcn) ac SAll.nil trivial rfl rfl (by kernel_rfl)
theorem byk [Gv] : aq 4 [.str 11 122622816042548377873378405] 256 [] (.ret (.bool true)) 256 [] := ag (n := 20000) (A := []) (T := []) (E := .nil) (ai SAll.nil _ hcn) ac SAll.nil trivial rfl rfl (by kernel_rfl)
theorem byl [Gv] : aq 4 [.str 13 7876222302167207231190018388852] 256 [] (.ret (.bool true)) 256 [] := ag (n := 20000) (A := []) (T := []) (E := .nil) (ai SAll.nil _ hcn) ac SAll.nil trivial rfl rfl (by kernel_rfl)
theorem bym [Gv] : aq 4 [.str 22 37964533983826296352995798791071340672472487022915175] 256 [] (.ret (.bool true)) 256 [] := ag (n := 20000) (A := []) (T := []) (E := .nil) (ai SAll.nil _ hcn) ac SAll.nil trivial rfl rfl (by kernel_rfl)
theorem byn [Gv] : aq 4 [.str 11 132251892078482770005159020] 256 [] (.ret (.bool true)) 256 [] := ag (n := 20000) (A := []) (T := []) (E := .nil) (ai SAll.nil _ hcn) ac SAll.nil trivial rfl rfl (by kernel_rfl)
theorem byo [Gv] : aq 4 [.str 14 2360798837088724829763814128774265] 256 [] (.ret (.bool true)) 256 [] := ag (n := 20000) (A := []) (T := []) (E := .nil) (ai SAll.nil _ hcn) ac SAll.nil trivial rfl rfl (by kernel_rfl)
theorem byp [Gv] : aq 4 [.str 19 2194306559561233339480094508905273046698714482] 256 [] (.ret (.bool true)) 256 [] := ag (n := 20000) (A := []) (T := []) (E := .nil) (ai SAll.nil _ hcn) ac SAll.nil trivial rfl rfl (by kernel_rfl)
theorem byq [Gv] : aq 4 [.str 13 8036208872164450487963119674738] 256 [] (.ret (.bool true)) 256 [] := ag (n := 20000) (A := []) (T := []) (E := .nil) (ai SAll.nil _ hcn) ac SAll.nil trivial rfl rfl (by kernel_rfl)
theorem byr [Gv] : aq 4 [.str 13 9142614481120370773387966702948] 256 [] (.ret (.bool true)) 256 [] := ag (n := 20000) (A := []) (T := []) (E := .nil) (ai SAll.nil _ hcn) ac SAll.nil trivial rfl rfl (by kernel_rfl)
theorem bys [Gv] : aq 4 [.str 14 2138404743268917599816109472970864] 256 [] (.ret (.bool true)) 256 [] := ag (n := 20000) (A := []) (T := []) (E := .nil) (ai SAll.nil _ hcn) ac SAll.nil trivial rfl rfl (by kernel_rfl)
theorem byt [Gv] : aq 4 [.str 10 554645564019283999223666] 256 [] (.ret (.bool true)) 256 [] := ag (n := 20000) (A := []) (T := []) (E := .nil) (ai SAll.nil _ hcn) ac SAll.nil trivial rfl rfl (by kernel_rfl)
theorem byu [Gv] : aq 4 [.str 16 130873919237818497454574540560026987641] 256 [] (.ret (.bool true)) 256 [] := ag (n := 20000) (A := []) (T := []) (E := .nil) (ai SAll.nil _ hcn) ac SAll.nil trivial rfl rfl (by kernel_rfl)
theorem byv [Gv] : aq 4 [.str 27 40921301388373393901266083601415623805023030494395681591402262382] 256 [] (.ret (.bool true)) 256 [] := ag (n := 20000) (A := []) (T := []) (E := .nil) (ai SAll.nil _ hcn) ac SAll.nil trivial rfl rfl (by kernel_rfl)
theorem byw [Gv] : aq 4 [.str 0 0] 256 [] (.ret (.bool true)) 256 [] := ag (n := 20000) (A := []) (T := []) (E := .nil) (ai SAll.nil _ hcn) ac SAll.nil trivial rfl rfl (by kernel_rfl)
end Go.Ev
