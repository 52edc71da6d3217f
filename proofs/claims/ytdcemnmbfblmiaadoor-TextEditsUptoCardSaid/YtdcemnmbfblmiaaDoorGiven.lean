/- The contracts of the functions that are proved by hand: this text only gathers them. -/
import Derived.Test.YtdcemnmbfblmiaaDoorGa
import Derived.Test.YtdcemnmbfblmiaaDoorGc
import Derived.Test.YtdcemnmbfblmiaaDoorGd
import Derived.Test.YtdcemnmbfblmiaaDoorGe
import Derived.Test.YtdcemnmbfblmiaaDoorGf
import Derived.Test.YtdcemnmbfblmiaaDoorGg
import Derived.Test.YtdcemnmbfblmiaaDoorGi
import Derived.Test.YtdcemnmbfblmiaaDoorGj
import Derived.Test.YtdcemnmbfblmiaaDoorGn
